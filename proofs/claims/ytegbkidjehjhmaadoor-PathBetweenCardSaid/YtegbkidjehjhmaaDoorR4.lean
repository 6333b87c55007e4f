/- Walks of package mercatorref1: AngleOf. -/
import Derived.Test.YtegbkidjehjhmaaDoorR3
import Derived.Test.YtegbkidjehjhmaaDoorPa
namespace Go.Proofs.YtegbkidjehjhmaaDoor
set_option maxRecDepth 20000
open Go.RowKit Go.Fp Go.Rel

theorem ang_yes' {qq lo hi : Int} {X Y X' Y' r1 r2 : Nat} (hX : X' = X) (hY : Y' = Y) (hb : TrueB (decide (qq = bisect (fun m => fle (fmul (sinP m) X) (fmul (cosP m) Y)) lo hi))) (hd : 1 < hi - lo)
    (t : (FloatKind.f64.format.order r1 r2 == some Ordering.lt) = true ∨ (FloatKind.f64.format.order r1 r2 == some Ordering.eq) = true)
    (h1 : can r1 = fbin BinOp.mul (can (sinP ((lo + hi) / 2))) (can X')) (h2 : can r2 = fbin BinOp.mul (can (cosP ((lo + hi) / 2))) (can Y')) :
    TrueB (decide (qq = bisect (fun m => fle (fmul (sinP m) X) (fmul (cosP m) Y)) ((lo + hi) / 2) hi)) := by
  subst hX; subst hY; exact ang_yes hb hd t h1 h2
theorem ang_no' {qq lo hi : Int} {X Y X' Y' r1 r2 : Nat} (hX : X' = X) (hY : Y' = Y) (hb : TrueB (decide (qq = bisect (fun m => fle (fmul (sinP m) X) (fmul (cosP m) Y)) lo hi))) (hd : 1 < hi - lo)
    (t : (FloatKind.f64.format.order r1 r2 == some Ordering.lt) = false ∧ (FloatKind.f64.format.order r1 r2 == some Ordering.eq) = false)
    (h1 : can r1 = fbin BinOp.mul (can (sinP ((lo + hi) / 2))) (can X')) (h2 : can r2 = fbin BinOp.mul (can (cosP ((lo + hi) / 2))) (can Y')) :
    TrueB (decide (qq = bisect (fun m => fle (fmul (sinP m) X) (fmul (cosP m) Y)) lo ((lo + hi) / 2))) := by
  subst hX; subst hY; exact ang_no hb hd t h1 h2

set_option maxHeartbeats 1000000 in
theorem angleOf_no1 (y x : Nat) (w : World) (hx : finP (can x) = false) : Calls Tryd.prog 68 #[.float .f64 y, .float .f64 x] w (AnR (0, false) w) := by
  have HF := finR_c x
  have HG := finR_c y
  rw [hx] at HF
  have HF' := Lib.hid HF
  have HG' := Lib.hid HG
  clear HF HG hx
  go_enter Tryd.func68, Tryd.ntmps68
  go_wp2_with fail
  refine (HF'.out _).mono ?_
  rintro e w1 ⟨rfl, hx1⟩
  go_wp2_with fail
  refine (HG'.out _).mono ?_
  rintro e w2 ⟨rfl, hx2⟩
  go_wp2_with fail
  go_ret2
  exact ⟨rfl, hx1.trans hx2⟩
set_option maxHeartbeats 1000000 in
theorem angleOf_no2 (y x : Nat) (w : World) (hx : finP (can x) = true) (hy : finP (can y) = false) : Calls Tryd.prog 68 #[.float .f64 y, .float .f64 x] w (AnR (0, false) w) := by
  have HF := finR_c x
  have HG := finR_c y
  rw [hx] at HF
  rw [hy] at HG
  have HF' := Lib.hid HF
  have HG' := Lib.hid HG
  clear HF HG hx hy
  go_enter Tryd.func68, Tryd.ntmps68
  go_wp2_with fail
  refine (HF'.out _).mono ?_
  rintro e w1 ⟨rfl, hx1⟩
  go_wp2_with fail
  refine (HG'.out _).mono ?_
  rintro e w2 ⟨rfl, hx2⟩
  go_wp2_with fail
  go_ret2
  exact ⟨rfl, hx1.trans hx2⟩
set_option maxHeartbeats 1000000 in
theorem angleOf_no3 (y x : Nat) (w : World) (hx : finP (can x) = true) (hy : finP (can y) = true) (hx0 : (D.order x 0 == some .eq) = true) (hy0 : (D.order y 0 == some .eq) = true) :
    Calls Tryd.prog 68 #[.float .f64 y, .float .f64 x] w (AnR (0, false) w) := by
  have HF := finR_c x
  have HG := finR_c y
  rw [hx] at HF
  rw [hy] at HG
  have HF' := Lib.hid HF
  have HG' := Lib.hid HG
  clear HF HG hx hy
  have hx0' : (FloatKind.f64.format.order x 0 == some .eq) = true := hx0
  have hy0' : (FloatKind.f64.format.order y 0 == some .eq) = true := hy0
  clear hx0 hy0
  go_enter Tryd.func68, Tryd.ntmps68
  go_wp2_with fail
  refine (HF'.out _).mono ?_
  rintro e w1 ⟨rfl, hx1⟩
  go_wp2_with fail
  refine (HG'.out _).mono ?_
  rintro e w2 ⟨rfl, hx2⟩
  go_wp2_with fail
  go_ret2
  exact ⟨rfl, hx1.trans hx2⟩

set_option maxHeartbeats 8000000 in
theorem angleOf_yes (y x : Nat) (w : World) (hx : finP (can x) = true) (hy : finP (can y) = true) (ox oy : Ordering) (hox : FloatKind.f64.format.order x 0 = some ox) (hoy : FloatKind.f64.format.order y 0 = some oy) (hne : ¬ (ox = .eq ∧ oy = .eq)) :
    Calls Tryd.prog 68 #[.float .f64 y, .float .f64 x] w (AnR (angleP (can y) (can x)) w) := by
  have HF := finR_c x
  have HG := finR_c y
  have hcx := fin_num hx
  have hcy := fin_num hy
  have HA : angleP (can y) (can x) = angleP y x := by rw [hcx, hcy]
  have HP : angleP y x = if fge x 0 && fge y 0 then (quad (absW x) (absW y), true) else if fge y 0 then (180000000000 - quad (absW x) (absW y), true) else if flt x 0 then (180000000000 + quad (absW x) (absW y), true) else (normP (360000000000 - quad (absW x) (absW y)), true) := by
    unfold angleP
    rw [hcx] at hx
    rw [hcy] at hy
    have h3 : (feq x 0 && feq y 0) = false := by
      unfold feq
      rw [show D.order x 0 = some ox from hox, show D.order y 0 = some oy from hoy]
      cases ox <;> cases oy <;> simp_all
    rw [hx, hy, h3]
    rfl
  rw [HA, HP]
  rw [hx] at HF
  rw [hy] at HG
  have HF' := Lib.hid HF
  have HG' := Lib.hid HG
  unfold fge flt
  rw [show D.order x 0 = some ox from hox, show D.order y 0 = some oy from hoy]
  clear HF HG HA HP hx hy
  have hnx : isNan x = false := by
    cases hn : isNan x
    · rfl
    · rw [can_of_nan hn] at hcx; rw [← hcx] at hox; exact absurd hox (by rw [show FloatKind.f64.format.order QN 0 = none from by decide +kernel]; simp)
  have hny : isNan y = false := by
    cases hn : isNan y
    · rfl
    · rw [can_of_nan hn] at hcy; rw [← hcy] at hoy; exact absurd hoy (by rw [show FloatKind.f64.format.order QN 0 = none from by decide +kernel]; simp)
  have HU := quad_ref hnx hny
  have hux : refAbs x = if D.order x 0 == some .lt then Op.negFloat .f64 x else x := rfl
  have huy : refAbs y = if D.order y 0 == some .lt then Op.negFloat .f64 y else y := rfl
  rw [show D.order x 0 = some ox from hox] at hux
  rw [show D.order y 0 = some oy from hoy] at huy
  clear hnx hny
  generalize refAbs x = ux at *
  generalize refAbs y = uy at *
  generalize quad (absW x) (absW y) = qq at *
  have HU' := Lib.hid HU
  have HX := Lib.hid hcx
  have HY := Lib.hid hcy
  clear HU hcx hcy
  have HUX : Hid (ux = if (some ox == some Ordering.lt) = true then Op.negFloat .f64 x else x) := hux
  have HUY : Hid (uy = if (some oy == some Ordering.lt) = true then Op.negFloat .f64 y else y) := huy
  clear hux huy
  cases ox <;> cases oy
  any_goals (exfalso; exact hne ⟨rfl, rfl⟩)
  all_goals clear hne
  all_goals
    go_enter Tryd.func68, Tryd.ntmps68
    go_wp2_with fail
    refine (HF'.out _).mono ?_
    rintro e w1 ⟨rfl, hx1⟩
    go_wp2_with fail
    refine (HG'.out _).mono ?_
    rintro e w2 ⟨rfl, hx2⟩
    go_wp2_with fail
    have hw := hx1.trans hx2
    clear hx1 hx2 HF' HG'
    go_loopw [10, 11] (fun l h wr => ∃ lo hi : Int, l = .int .i64 lo ∧ h = .int .i64 hi ∧ 0 ≤ lo ∧ lo < hi ∧ hi ≤ 90000000001 ∧ TrueB (decide (qq = bisect (fun m => fle (fmul (sinP m) ux) (fmul (cosP m) uy)) lo hi)) ∧ Ext w wr) (fun l h _ => (intOf h - intOf l).toNat)
    case atStart => exact ⟨0, 90000000001, rfl, rfl, by omega, by omega, by omega, decide_eq_true HU'.out, hw⟩
    case round =>
      clear hw
      obtain ⟨lo, hi, rfl, rfl, h1, h2, h3, hb, hxw⟩ := hrel
      by_cases hd : 1 < hi - lo
      · go_wp2_with (first | (go_at_call 57; refine (sincos_c _ _).mono ?_; rintro e w' ⟨rfl, rfl⟩) | (with_reducible refine upon_fl rfl ?_; intro r n hr))
        · go_roundw
          case rel => exact ⟨_, _, rfl, rfl, by omega, by omega, by omega, ang_yes' HUX.out.symm HUY.out.symm hb hd (by assumption) (by assumption) (by assumption), hxw.drewN _⟩
          case measure => simp only [intOf]; omega
        · go_roundw
          case rel => exact ⟨_, _, rfl, rfl, by omega, by omega, by omega, ang_no' HUX.out.symm HUY.out.symm hb hd (by assumption) (by assumption) (by assumption), hxw.drewN _⟩
          case measure => simp only [intOf]; omega
      · have := ang_end hb hd
        subst this
        clear hb
        go_wp2_with (first | (go_at_call 56; refine (normOf_c _ _).mono ?_; rintro e w' ⟨rfl, rfl⟩))
        go_ret2
        exact ⟨rfl, hxw⟩

theorem angleOf_c (y x : Nat) (w : World) : Calls Tryd.prog 68 #[.float .f64 y, .float .f64 x] w (AnR (angleP (can y) (can x)) w) := by
  cases hx : finP (can x) with
  | false =>
    have e : angleP (can y) (can x) = (0, false) := by unfold angleP; rw [hx]; rfl
    rw [e]; exact angleOf_no1 y x w hx
  | true =>
    cases hy : finP (can y) with
    | false =>
      have e : angleP (can y) (can x) = (0, false) := by unfold angleP; rw [hx, hy]; rfl
      rw [e]; exact angleOf_no2 y x w hx hy
    | true =>
      have hcx := fin_num hx
      have hcy := fin_num hy
      have hnx : isNan x = false := by
        cases hn : isNan x
        · rfl
        · rw [can_of_nan hn] at hx; exact absurd hx (by decide +kernel)
      have hny : isNan y = false := by
        cases hn : isNan y
        · rfl
        · rw [can_of_nan hn] at hy; exact absurd hy (by decide +kernel)
      obtain ⟨ox, hox⟩ := order_some hnx
      obtain ⟨oy, hoy⟩ := order_some hny
      by_cases hne : ox = .eq ∧ oy = .eq
      · obtain ⟨rfl, rfl⟩ := hne
        have hx0 : (D.order x 0 == some .eq) = true := by rw [hox]; rfl
        have hy0 : (D.order y 0 == some .eq) = true := by rw [hoy]; rfl
        have e : angleP (can y) (can x) = (0, false) := by
          unfold angleP feq
          rw [hx, hy, hcx, hcy, hx0, hy0]; rfl
        rw [e]; exact angleOf_no3 y x w hx hy hx0 hy0
      · exact angleOf_yes y x w hx hy ox oy hox hoy hne
end Go.Proofs.YtegbkidjehjhmaaDoor
