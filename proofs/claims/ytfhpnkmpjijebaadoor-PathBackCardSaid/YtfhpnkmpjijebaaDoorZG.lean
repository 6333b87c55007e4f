/- Walks of package mercatorref1: SinCos, Finite, Plus, Less, LengthOf. -/
import Derived.Test.YtfhpnkmpjijebaaDoorZF
namespace Go.Proofs.YtfhpnkmpjijebaaDoor
set_option maxRecDepth 20000
open Go.RowKit Go.Fp Go.Rel

/-- a call hands back two floats -/
def TwoR (a b : Nat) (w : World) (e : Ending) (w' : World) : Prop := e = .returned (.tuple #[.float .f64 a, .float .f64 b]) ∧ w = w'

set_option maxHeartbeats 2000000 in
theorem sincos_c (a : Int) (w : World) : Calls Tryd.prog 34 #[.int .i64 a] w (TwoR (sinP a) (cosP a) w) := by
  unfold sinP cosP sinN cosN
  have hlo := normP_lo a
  have hhi := normP_hi a
  have HN := normOf_c a
  generalize normP a = b at *
  have hx := (tp_x hlo hhi).1
  have hz := (tp_z hlo hhi).1
  have hz7 := (tp_z hlo hhi).2
  obtain ⟨⟨_, _, hs3⟩, _⟩ := tp_s hlo hhi
  have HS1 := Lib.hid (series_sin (zOf b) hz7)
  have HS0 := Lib.hid (series_cos (zOf b) hz7)
  have hc0 : fadd one (fmul (zOf b) (hor (zOf b) DD)) = cOf b := rfl
  rw [hc0] at HS0
  clear hc0
  have h4 := quart4 b
  have hq0 := quart_lo hlo
  have hq1 := quart_hi hhi
  have hopx : ∀ t w, (binOp .mul t (.float .f64 (floatOfInt .f64 (b - quart b * 90000000000))) (.float .f64 4445950764994258515)).run Tryd.prog w = .ok (.float .f64 (xOf b)) w := fun t w => run_float_arith w .mul t .f64 _ _ _ hx
  have hopz : ∀ t w, (binOp .mul t (.float .f64 (xOf b)) (.float .f64 (xOf b))).run Tryd.prog w = .ok (.float .f64 (zOf b)) w := fun t w => run_float_arith w .mul t .f64 _ _ _ hz
  have hops : ∀ t w, (binOp .mul t (.float .f64 (xOf b)) (.float .f64 (fadd one (fmul (zOf b) (hor (zOf b) KK))))).run Tryd.prog w = .ok (.float .f64 (sOf b)) w := fun t w => run_float_arith w .mul t .f64 _ _ _ hs3
  have HQ : Hid (quart b = (b + 45000000000) / 90000000000) := rfl
  have HN' := Lib.hid HN
  clear HN hx hz hz7 hs3
  generalize fadd one (fmul (zOf b) (hor (zOf b) KK)) = sr at *
  generalize zOf b = z at *
  generalize xOf b = x at *
  generalize sOf b = s at *
  generalize cOf b = c at *
  generalize quart b = q at *
  generalize hR1 : (if q % 4 = 0 then s else if q % 4 = 1 then c else if q % 4 = 2 then Op.negFloat FloatKind.f64 s else Op.negFloat FloatKind.f64 c) = R1 at *
  generalize hR2 : (if q % 4 = 0 then c else if q % 4 = 1 then Op.negFloat FloatKind.f64 s else if q % 4 = 2 then Op.negFloat FloatKind.f64 c else s) = R2 at *
  have HR1 := Lib.hid hR1
  have HR2 := Lib.hid hR2
  clear hR1 hR2
  go_enter Tryd.func34, Tryd.ntmps34
  go_wp2_with (first | (go_at_call 44; refine (HN'.out _).mono ?_; rintro e w' ⟨rfl, rfl⟩))
  go_loop [0, 4] (fun v k => ∃ j : Int, 0 ≤ j ∧ j ≤ q ∧ k = .int .i64 j ∧ v = .int .i64 (b - j * 90000000000)) (fun v _ => (intOf v + 45000000000).toNat)
  case atStart => exact ⟨0, by omega, hq0, rfl, by rw [Int.zero_mul, Int.sub_zero]⟩
  case round =>
    obtain ⟨j, hj0, hj1, rfl, rfl⟩ := hrel
    have hq := HQ.out
    by_cases hj : 45000000000 ≤ b - j * 90000000000
    · have hjq : j + 1 ≤ q := by omega
      clear hq
      go_wp2_with fail
      go_round
      case rel => exact ⟨j + 1, by omega, hjq, rfl, by go_num⟩
      case measure => simp only [intOf]; omega
    · have hjq : j = q := by omega
      clear hq
      subst hjq
      clear hj1
      rcases h4 with h4 | h4 | h4 | h4
      all_goals
        go_wp2_with fail
        refine (HS1.out _).mono ?_
        rintro e w' ⟨rfl, rfl⟩
        go_wp2_with fail
        refine (HS0.out _).mono ?_
        rintro e w' ⟨rfl, rfl⟩
        go_wp2_with fail
        go_ret2
        refine ⟨?_, rfl⟩
        rw [← HR1.out, ← HR2.out]
        simp only [h4]
        rfl
end Go.Proofs.YtfhpnkmpjijebaaDoor

/- Walks of package grain: Angle. -/
namespace Go.Proofs.YtfhpnkmpjijebaaDoor
set_option maxRecDepth 20000
open Go.RowKit Go.Fp Go.Rel

theorem fin_num {x : Nat} (h : finP (can x) = true) : can x = x := by
  cases hn : isNan x
  · exact can_of_not hn
  · rw [can_of_nan hn] at h
    exact absurd h (by decide +kernel)

/-- a call hands back an int and a bool -/
def AnR (p : Int × Bool) (w : World) (e : Ending) (w' : World) : Prop := e = .returned (.tuple #[.int .i64 p.1, .bool p.2]) ∧ Ext w w'

def TrueB (b : Bool) : Prop := b = true

set_option maxHeartbeats 1000000 in
theorem angle_no1 (y x : Nat) (w : World) (hx : finP (can x) = false) : Calls Tryd.prog 24 #[.float .f64 y, .float .f64 x] w (AnR (0, false) w) := by
  have HF := fin_c x
  rw [hx] at HF
  have HF' := Lib.hid HF
  clear HF hx
  go_enter Tryd.func24, Tryd.ntmps24
  go_wp2_with (first | (go_at_call 40; refine (HF'.out _).mono ?_; rintro e w' ⟨rfl, hx⟩))
  go_ret2
  exact ⟨rfl, hx⟩
set_option maxHeartbeats 1000000 in
theorem angle_no2 (y x : Nat) (w : World) (hx : finP (can x) = true) (hy : finP (can y) = false) : Calls Tryd.prog 24 #[.float .f64 y, .float .f64 x] w (AnR (0, false) w) := by
  have HF := fin_c x
  rw [hx] at HF
  have HF' := Lib.hid HF
  have HG := fin_c y
  rw [hy] at HG
  have HG' := Lib.hid HG
  clear HF hx HG hy
  go_enter Tryd.func24, Tryd.ntmps24
  go_wp2_with fail
  refine (HF'.out _).mono ?_
  rintro e w' ⟨rfl, hx⟩
  go_wp2_with fail
  refine (HG'.out _).mono ?_
  rintro e w'' ⟨rfl, hx'⟩
  go_wp2_with fail
  go_ret2
  exact ⟨rfl, hx.trans hx'⟩
set_option maxHeartbeats 1000000 in
theorem angle_no3 (y x : Nat) (w : World) (hx : finP (can x) = true) (hy : finP (can y) = true) (hx0 : (D.order x 0 == some .eq) = true) (hy0 : (D.order y 0 == some .eq) = true) :
    Calls Tryd.prog 24 #[.float .f64 y, .float .f64 x] w (AnR (0, false) w) := by
  have HF := fin_c x
  rw [hx] at HF
  have HF' := Lib.hid HF
  have HG := fin_c y
  rw [hy] at HG
  have HG' := Lib.hid HG
  clear HF hx HG hy
  have hx0' : (FloatKind.f64.format.order x 0 == some .eq) = true := hx0
  have hy0' : (FloatKind.f64.format.order y 0 == some .eq) = true := hy0
  clear hx0 hy0
  go_enter Tryd.func24, Tryd.ntmps24
  go_wp2_with fail
  refine (HF'.out _).mono ?_
  rintro e w' ⟨rfl, hx⟩
  go_wp2_with fail
  refine (HG'.out _).mono ?_
  rintro e w'' ⟨rfl, hx'⟩
  go_wp2_with fail
  go_ret2
  exact ⟨rfl, hx.trans hx'⟩
end Go.Proofs.YtfhpnkmpjijebaaDoor

/- Walks of package grain: Angle, where there is one. -/
namespace Go.Proofs.YtfhpnkmpjijebaaDoor
set_option maxRecDepth 20000
open Go.RowKit Go.Fp Go.Rel

theorem ang_yes {qq lo hi : Int} {X Y r1 r2 : Nat} (hb : TrueB (decide (qq = bisect (fun m => fle (fmul (sinP m) X) (fmul (cosP m) Y)) lo hi))) (hd : 1 < hi - lo)
    (t : (FloatKind.f64.format.order r1 r2 == some Ordering.lt) = true ∨ (FloatKind.f64.format.order r1 r2 == some Ordering.eq) = true)
    (h1 : can r1 = fbin BinOp.mul (can (sinP ((lo + hi) / 2))) (can X)) (h2 : can r2 = fbin BinOp.mul (can (cosP ((lo + hi) / 2))) (can Y)) :
    TrueB (decide (qq = bisect (fun m => fle (fmul (sinP m) X) (fmul (cosP m) Y)) ((lo + hi) / 2) hi)) := by
  have hp : fle (fmul (sinP ((lo + hi) / 2)) X) (fmul (cosP ((lo + hi) / 2)) Y) = true := by
    have e1 : fmul (sinP ((lo + hi) / 2)) X = can r1 := by rw [h1]; exact (fmul_can _ _).symm
    have e2 : fmul (cosP ((lo + hi) / 2)) Y = can r2 := by rw [h2]; exact (fmul_can _ _).symm
    rw [e1, e2]; unfold fle; rw [order_can]
    rw [Bool.or_eq_true]; exact t
  unfold TrueB at *
  rw [decide_eq_true_eq] at *
  rw [hb]
  exact bisect_yes hd hp
theorem ang_no {qq lo hi : Int} {X Y r1 r2 : Nat} (hb : TrueB (decide (qq = bisect (fun m => fle (fmul (sinP m) X) (fmul (cosP m) Y)) lo hi))) (hd : 1 < hi - lo)
    (t : (FloatKind.f64.format.order r1 r2 == some Ordering.lt) = false ∧ (FloatKind.f64.format.order r1 r2 == some Ordering.eq) = false)
    (h1 : can r1 = fbin BinOp.mul (can (sinP ((lo + hi) / 2))) (can X)) (h2 : can r2 = fbin BinOp.mul (can (cosP ((lo + hi) / 2))) (can Y)) :
    TrueB (decide (qq = bisect (fun m => fle (fmul (sinP m) X) (fmul (cosP m) Y)) lo ((lo + hi) / 2))) := by
  have hp : fle (fmul (sinP ((lo + hi) / 2)) X) (fmul (cosP ((lo + hi) / 2)) Y) = false := by
    have e1 : fmul (sinP ((lo + hi) / 2)) X = can r1 := by rw [h1]; exact (fmul_can _ _).symm
    have e2 : fmul (cosP ((lo + hi) / 2)) Y = can r2 := by rw [h2]; exact (fmul_can _ _).symm
    rw [e1, e2]; unfold fle; rw [order_can]
    rw [Bool.or_eq_false_iff]; exact t
  unfold TrueB at *
  rw [decide_eq_true_eq] at *
  rw [hb]
  exact bisect_no hd hp
theorem ang_end {qq lo hi : Int} {p : Int → Bool} (hb : TrueB (decide (qq = bisect p lo hi))) (hd : ¬ 1 < hi - lo) : qq = lo := by
  unfold TrueB at hb
  rw [decide_eq_true_eq] at hb
  rw [hb]
  exact bisect_done p (by omega)

set_option maxHeartbeats 8000000 in
theorem angle_yes (y x : Nat) (w : World) (hx : finP (can x) = true) (hy : finP (can y) = true) (ox oy : Ordering) (hox : FloatKind.f64.format.order x 0 = some ox) (hoy : FloatKind.f64.format.order y 0 = some oy) (hne : ¬ (ox = .eq ∧ oy = .eq)) :
    Calls Tryd.prog 24 #[.float .f64 y, .float .f64 x] w (AnR (angleP (can y) (can x)) w) := by
  have HF := fin_c x
  have HG := fin_c y
  have hcx := fin_num hx
  have hcy := fin_num hy
  have HA : angleP (can y) (can x) = angleP y x := by rw [hcx, hcy]
  have HP : angleP y x = if fge x 0 && fge y 0 then (quad (absW x) (absW y), true) else if fge y 0 then (180000000000 - quad (absW x) (absW y), true) else if flt x 0 then (180000000000 + quad (absW x) (absW y), true) else (normP (360000000000 - quad (absW x) (absW y)), true) := by
    unfold angleP
    rw [hcx] at hx
    rw [hcy] at hy
    have h3 : (feq x 0 && feq y 0) = false := by
      unfold feq
      rw [show D.order x 0 = some ox from hox, show D.order y 0 = some oy from hoy]
      cases ox <;> cases oy <;> simp_all
    rw [hx, hy, h3]
    rfl
  rw [HA, HP]
  rw [hx] at HF
  rw [hy] at HG
  have HF' := Lib.hid HF
  have HG' := Lib.hid HG
  unfold fge flt
  rw [show D.order x 0 = some ox from hox, show D.order y 0 = some oy from hoy]
  clear HF HG HA HP hx hy
  have HU : quad (absW x) (absW y) = bisect (fun m => fle (fmul (sinP m) (absW x)) (fmul (cosP m) (absW y))) 0 90000000001 := quad_def _ _
  generalize quad (absW x) (absW y) = qq at *
  have HU' := Lib.hid HU
  have HX := Lib.hid hcx
  have HY := Lib.hid hcy
  clear HU hcx hcy
  cases ox <;> cases oy
  any_goals (exfalso; exact hne ⟨rfl, rfl⟩)
  all_goals clear hne
  all_goals
    go_enter Tryd.func24, Tryd.ntmps24
    go_wp2_with fail
    refine (HF'.out _).mono ?_
    rintro e w1 ⟨rfl, hx1⟩
    go_wp2_with fail
    refine (HG'.out _).mono ?_
    rintro e w2 ⟨rfl, hx2⟩
    go_wp2_with (first | (go_at_call 41; refine (abs_c _ _).mono ?_; rintro e w' ⟨rfl, rfl⟩))
    have hw := hx1.trans hx2
    clear hx1 hx2 HF' HG'
    go_loopw [8, 9] (fun l h wr => ∃ lo hi : Int, l = .int .i64 lo ∧ h = .int .i64 hi ∧ 0 ≤ lo ∧ lo < hi ∧ hi ≤ 90000000001 ∧ TrueB (decide (qq = bisect (fun m => fle (fmul (sinP m) (absW x)) (fmul (cosP m) (absW y))) lo hi)) ∧ Ext w wr) (fun l h _ => (intOf h - intOf l).toNat)
    case atStart => exact ⟨0, 90000000001, rfl, rfl, by omega, by omega, by omega, decide_eq_true HU'.out, hw⟩
    case round =>
      clear hw
      obtain ⟨lo, hi, rfl, rfl, h1, h2, h3, hb, hxw⟩ := hrel
      by_cases hd : 1 < hi - lo
      · go_wp2_with (first | (go_at_call 21; refine (sin_c _ _).mono ?_; rintro e w' ⟨rfl, hxs⟩) | (go_at_call 22; refine (cos_c _ _).mono ?_; rintro e w' ⟨rfl, hxc⟩) | (with_reducible refine upon_fl rfl ?_; intro r n hr))
        · go_roundw
          case rel => exact ⟨_, _, rfl, rfl, by omega, by omega, by omega, ang_yes hb hd (by assumption) (by assumption) (by assumption), ((hxw.trans hxs).drewN _).trans (hxc.drewN _)⟩
          case measure => simp only [intOf]; omega
        · go_roundw
          case rel => exact ⟨_, _, rfl, rfl, by omega, by omega, by omega, ang_no hb hd (by assumption) (by assumption) (by assumption), ((hxw.trans hxs).drewN _).trans (hxc.drewN _)⟩
          case measure => simp only [intOf]; omega
      · have := ang_end hb hd
        subst this
        clear hb
        go_wp2_with (first | (go_at_call 19; refine (norm_c _ _).mono ?_; rintro e w' ⟨rfl, rfl⟩))
        go_ret2
        exact ⟨rfl, hxw⟩
end Go.Proofs.YtfhpnkmpjijebaaDoor

/- Walks of package grain: Angle, whole; Length. -/
namespace Go.Proofs.YtfhpnkmpjijebaaDoor
set_option maxRecDepth 20000
open Go.RowKit Go.Fp Go.Rel

theorem order_some {x : Nat} (h : isNan x = false) : ∃ o, D.order x 0 = some o := by
  unfold isNan at h
  unfold Ieee.Format.order
  have e : D.read 0 = .number false 0 (-1074) := by decide +kernel
  rw [e]
  cases hd : D.read x with
  | nan s t => rw [hd] at h; cases h
  | number s m p => exact ⟨_, rfl⟩
  | infinity s => exact ⟨_, rfl⟩

theorem angle_c (y x : Nat) (w : World) : Calls Tryd.prog 24 #[.float .f64 y, .float .f64 x] w (AnR (angleP (can y) (can x)) w) := by
  cases hx : finP (can x) with
  | false =>
    have e : angleP (can y) (can x) = (0, false) := by unfold angleP; rw [hx]; rfl
    rw [e]; exact angle_no1 y x w hx
  | true =>
    cases hy : finP (can y) with
    | false =>
      have e : angleP (can y) (can x) = (0, false) := by unfold angleP; rw [hx, hy]; rfl
      rw [e]; exact angle_no2 y x w hx hy
    | true =>
      have hcx := fin_num hx
      have hcy := fin_num hy
      have hnx : isNan x = false := by
        cases hn : isNan x
        · rfl
        · rw [can_of_nan hn] at hx; exact absurd hx (by decide +kernel)
      have hny : isNan y = false := by
        cases hn : isNan y
        · rfl
        · rw [can_of_nan hn] at hy; exact absurd hy (by decide +kernel)
      obtain ⟨ox, hox⟩ := order_some hnx
      obtain ⟨oy, hoy⟩ := order_some hny
      by_cases hne : ox = .eq ∧ oy = .eq
      · obtain ⟨rfl, rfl⟩ := hne
        have hx0 : (D.order x 0 == some .eq) = true := by rw [hox]; rfl
        have hy0 : (D.order y 0 == some .eq) = true := by rw [hoy]; rfl
        have e : angleP (can y) (can x) = (0, false) := by
          unfold angleP feq
          rw [hx, hy, hcx, hcy, hx0, hy0]; rfl
        rw [e]; exact angle_no3 y x w hx hy hx0 hy0
      · exact angle_yes y x w hx hy ox oy hox hoy hne

/-- the root of x * x + y * y + z * z -/
def lenP (x y z : Nat) : Nat := fsqrt (fadd (fadd (fmul x x) (fmul y y)) (fmul z z))

end Go.Proofs.YtfhpnkmpjijebaaDoor

/- Walks of package mercatorref1: Finite, Plus, Less, LengthOf. -/
namespace Go.Proofs.YtfhpnkmpjijebaaDoor
set_option maxRecDepth 20000
open Go.RowKit Go.Fp Go.Rel

set_option maxHeartbeats 1000000 in
theorem finR_c (x : Nat) (w : World) : Calls Tryd.prog 46 #[.float .f64 x] w (ExR (.bool (finP (can x))) w) := by
  go_enter Tryd.func46, Tryd.ntmps46
  go_wp2_with (first | (with_reducible refine upon_fl rfl ?_; intro r n hr))
  go_ret
  refine ⟨?_, (Ext.refl _).drewN _⟩
  rw [fin_of hr]
  rfl
set_option maxHeartbeats 1000000 in
theorem plus_c (x y z : Nat) (w : World) : Calls Tryd.prog 13 #[.float .f64 x, .float .f64 y, .float .f64 z] w (FlR (fadd (can x) (fmul (can y) (can z))) w) := by
  go_enter Tryd.func13, Tryd.ntmps13
  go_wp2_with (first | (with_reducible refine upon_fl rfl ?_; intro r n hr))
  go_ret
  refine ⟨_, rfl, by simp only [*, fbin], ?_⟩
  exact (Ext.refl _).drewN _
set_option maxHeartbeats 1000000 in
theorem less_c (x y z : Nat) (w : World) : Calls Tryd.prog 12 #[.float .f64 x, .float .f64 y, .float .f64 z] w (FlR (fsub (can x) (fmul (can y) (can z))) w) := by
  go_enter Tryd.func12, Tryd.ntmps12
  go_wp2_with (first | (with_reducible refine upon_fl rfl ?_; intro r n hr))
  go_ret
  refine ⟨_, rfl, by simp only [*, fbin], ?_⟩
  exact (Ext.refl _).drewN _

set_option maxHeartbeats 4000000 in
theorem lengthOf_c (x y z : Nat) (w : World) : Calls Tryd.prog 10 #[.agg #[.float .f64 x, .float .f64 y, .float .f64 z]] w (FlR (lenP (can x) (can y) (can z)) w) := by
  unfold lenP
  go_enter Tryd.func10, Tryd.ntmps10
  go_wp2_with fail
  refine wp_region_all (fun f args v => (f = 13 ∧ SpTri (fun x y z => fadd x (fmul y z)) args v) ∨ (f = 23 ∧ SpOne fsqrt args v)) (by kernel_rfl) (by kernel_rfl) ?_
  repeat (first
    | (refine wpR_op rfl (fun w1 hw K hK => ?_); have hc := hw.cell; go_simp; refine hK _ ?_; clear hK K hc hw w1)
    | (refine wpR_op rfl (fun w1 hw K hK => ?_); go_simp; refine rel_fl rfl ?_; intro r hr; refine hK _ ?_; clear hK K hw w1)
    | (refine wpR_op rfl (fun w1 hw K hK => ?_); go_simp; refine rel_call (FlR.call (plus_c _ _ _ _)) (fun v => ?_) (fun v hv => ?_); (simp [spTri_iff]); obtain ⟨r, rfl, hr⟩ := hv; refine hK _ ?_; clear hK K hw w1)
    | (refine wpR_op rfl (fun w1 hw K hK => ?_); go_simp; refine rel_call (FlR.call (sqrt_c _ _)) (fun v => ?_) (fun v hv => ?_); (simp [spOne_iff]); obtain ⟨r, rfl, hr⟩ := hv; refine hK _ ?_; clear hK K hw w1))
  refine wpR_nil ?_
  intro w1 hx _
  go_wp2_with fail
  go_ret
  refine ⟨_, rfl, by simp only [*, fbin], ?_⟩
  repeat (first | exact Ext.refl _ | refine Ext.drew ?_ | refine Ext.alloc ?_ _ | refine Ext.trans ?_ (by assumption))
end Go.Proofs.YtfhpnkmpjijebaaDoor

/- Walks: globes: which are valid, their eccentricity; the same bits. -/
namespace Go.Proofs.YtfhpnkmpjijebaaDoor
open Go.RowKit Go.Fp Go.Rel
set_option maxRecDepth 20000

def btw (x lo hi : Nat) : Bool := fge x lo && fle x hi
/-- a globe that is one -/
def okG (a f : Nat) : Bool := btw a 4607182418800017408 4741671816366391296 && btw f 0 4598175219545276416
abbrev globeV (a f : Nat) : Value := .agg #[.float .f64 a, .float .f64 f]

set_option maxHeartbeats 1000000 in
theorem between_c (x lo hi : Nat) (w : World) : Calls Tryd.prog 32 #[.float .f64 x, .float .f64 lo, .float .f64 hi] w (ExR (.bool (btw x lo hi)) w) := by
  go_enter Tryd.func32, Tryd.ntmps32
  go_wp2
  all_goals go_ret
  all_goals (refine ⟨?_, Ext.refl _⟩; first | rfl | (have hD : FloatKind.f64.format = D := rfl; simp only [hD] at *; simp_all [btw, fge, fle]))

theorem globeError_c (a f : Nat) (w : World) : Calls Tryd.prog 31 #[globeV a f] w (ExR (.int .i64 (if okG a f then 0 else 3)) w) := by
  have tk : Hid True := trivial
  have hB1 := Lib.hid (between_c a 4607182418800017408 4741671816366391296)
  have hB2 := Lib.hid (between_c f 0 4598175219545276416)
  have hok : okG a f = (btw a 4607182418800017408 4741671816366391296 && btw f 0 4598175219545276416) := rfl
  rw [hok]
  clear hok
  generalize btw a 4607182418800017408 4741671816366391296 = b1 at *
  generalize btw f 0 4598175219545276416 = b2 at *
  cases b1 <;> cases b2
  all_goals
    go_enter Tryd.func31, Tryd.ntmps31
    go_wp2_with (first
      | (go_at_call 32; clear tk; refine (hB1.out _).mono ?_; rintro e w1 ⟨rfl, hx1⟩; obtain ⟨hb1, hxa⟩ := ext1 hx1; have c1 : w1.cell? ⟨w.heap.size, 1, none⟩ = some (.float .f64 f) := hb1.cell 1)
      | (go_at_call 32; refine (hB2.out _).mono ?_; rintro e w2 ⟨rfl, hx2⟩; have hxb := hxa.trans hx2))
    go_ret
    exact ⟨rfl, hxb⟩

/-- the square of the eccentricity -/
def eccP (f : Nat) : Nat := fmul (can f) (fsub (can 4611686018427387904) (can f))
set_option maxHeartbeats 1000000 in
theorem ecc_c (a f : Nat) (w : World) : Calls Tryd.prog 42 #[globeV a f] w (FlR (eccP f) w) := by
  unfold eccP
  go_enter Tryd.func42, Tryd.ntmps42
  go_wp2_with (first | (with_reducible refine upon_fl rfl ?_; intro r n hr))
  go_ret
  refine ⟨_, rfl, by simp only [*, fbin], ?_⟩
  repeat (first | exact Ext.refl _ | refine Ext.drewN ?_ _ | refine Ext.alloc ?_ _)
set_option maxHeartbeats 1000000 in
theorem squareOf_c (a f : Nat) (w : World) : Calls Tryd.prog 35 #[globeV a f] w (FlR (eccP f) w) := by
  unfold eccP
  go_enter Tryd.func35, Tryd.ntmps35
  go_wp2_with (first | (with_reducible refine upon_fl rfl ?_; intro r n hr))
  go_ret
  refine ⟨_, rfl, by simp only [*, fbin], ?_⟩
  repeat (first | exact Ext.refl _ | refine Ext.drewN ?_ _ | refine Ext.alloc ?_ _)

end Go.Proofs.YtfhpnkmpjijebaaDoor

/- Walks: globes: the radius across the meridian, the program's and the reference's. -/
namespace Go.Proofs.YtfhpnkmpjijebaaDoor
open Go.RowKit Go.Fp Go.Rel
set_option maxRecDepth 20000

def crossP (a f : Nat) (lat : Int) : Nat := fdiv (can a) (fsqrt (fsub (can 4607182418800017408) (fmul (fmul (eccP f) (can (sinP lat))) (can (sinP lat)))))

/-- of a call with a globe: a number that comes of it -/
def SpGl (g : Nat → Nat → Nat) (args : Array Value) (v : Value) : Prop := ∃ a f : Nat, args = #[globeV a f] ∧ isFl (g a f) v
theorem spGl_iff (g : Nat → Nat → Nat) (a f : Nat) (v : Value) : SpGl g #[globeV a f] v ↔ isFl (g a f) v := by
  unfold SpGl
  exact ⟨fun ⟨_, _, h, k⟩ => by simp at h; obtain ⟨rfl, rfl⟩ := h; exact k, fun h => ⟨_, _, rfl, h⟩⟩
theorem spGl_iff' (g : Nat → Nat → Nat) (a f : Nat) (v : Value) : SpGl g #[.agg #[.float .f64 a, .float .f64 f]] v ↔ isFl (g a f) v := spGl_iff g a f v

set_option maxHeartbeats 4000000 in
theorem crossOf_c (a f : Nat) (lat : Int) (w : World) : Calls Tryd.prog 33 #[globeV a f, .int .i64 lat] w (FlR (crossP a f lat) w) := by
  unfold crossP
  go_enter Tryd.func33, Tryd.ntmps33
  go_wp2_with (first
    | (go_at_call 34; refine (sincos_c _ _).mono ?_; rintro e w' ⟨rfl, rfl⟩)
    | (go_at_call 35; refine (squareOf_c a f _).mono ?_; rintro e w2 ⟨r2, rfl, hr2, hx⟩; obtain ⟨hb1, hw0⟩ := ext1 hx)
    | (with_reducible refine upon_fl rfl ?_; intro r n hr))
  refine wp_region_all (fun g args v => (g = 12 ∧ SpTri (fun x y z => fsub x (fmul y z)) args v) ∨ (g = 23 ∧ SpOne fsqrt args v)) (by kernel_rfl) (by kernel_rfl) ?_
  repeat (first
    | (refine wpR_op rfl (fun w1 hw K hK => ?_); have c1 := ((hb1.drewN _).ext hw.of_drew).cell; go_simp; refine hK _ ?_; clear hK K c1 hw w1)
    | (refine wpR_op rfl (fun w1 hw K hK => ?_); go_simp; refine rel_fl rfl ?_; intro r hr; refine hK _ ?_; clear hK K hw w1)
    | (refine wpR_op rfl (fun w1 hw K hK => ?_); go_simp; refine rel_call (FlR.call (less_c _ _ _ _)) (fun v => ?_) (fun v hv => ?_); (simp [spTri_iff]); obtain ⟨r, rfl, hr⟩ := hv; refine hK _ ?_; clear hK K hw w1)
    | (refine wpR_op rfl (fun w1 hw K hK => ?_); go_simp; refine rel_call (FlR.call (sqrt_c _ _)) (fun v => ?_) (fun v hv => ?_); (simp [spOne_iff]); obtain ⟨r, rfl, hr⟩ := hv; refine hK _ ?_; clear hK K hw w1))
  refine wpR_nil ?_
  intro w1 hx1 _
  replace hw0 := (hw0.drewN _).trans hx1.of_drew
  go_wp2_with fail
  go_ret
  exact ⟨_, rfl, by simp only [*, fbin], hw0⟩
end Go.Proofs.YtfhpnkmpjijebaaDoor

/- Walks of package mercatorref1: AngleOf. -/
namespace Go.Proofs.YtfhpnkmpjijebaaDoor
set_option maxRecDepth 20000
open Go.RowKit Go.Fp Go.Rel

theorem ang_yes' {qq lo hi : Int} {X Y X' Y' r1 r2 : Nat} (hX : X' = X) (hY : Y' = Y) (hb : TrueB (decide (qq = bisect (fun m => fle (fmul (sinP m) X) (fmul (cosP m) Y)) lo hi))) (hd : 1 < hi - lo)
    (t : (FloatKind.f64.format.order r1 r2 == some Ordering.lt) = true ∨ (FloatKind.f64.format.order r1 r2 == some Ordering.eq) = true)
    (h1 : can r1 = fbin BinOp.mul (can (sinP ((lo + hi) / 2))) (can X')) (h2 : can r2 = fbin BinOp.mul (can (cosP ((lo + hi) / 2))) (can Y')) :
    TrueB (decide (qq = bisect (fun m => fle (fmul (sinP m) X) (fmul (cosP m) Y)) ((lo + hi) / 2) hi)) := by
  subst hX; subst hY; exact ang_yes hb hd t h1 h2
theorem ang_no' {qq lo hi : Int} {X Y X' Y' r1 r2 : Nat} (hX : X' = X) (hY : Y' = Y) (hb : TrueB (decide (qq = bisect (fun m => fle (fmul (sinP m) X) (fmul (cosP m) Y)) lo hi))) (hd : 1 < hi - lo)
    (t : (FloatKind.f64.format.order r1 r2 == some Ordering.lt) = false ∧ (FloatKind.f64.format.order r1 r2 == some Ordering.eq) = false)
    (h1 : can r1 = fbin BinOp.mul (can (sinP ((lo + hi) / 2))) (can X')) (h2 : can r2 = fbin BinOp.mul (can (cosP ((lo + hi) / 2))) (can Y')) :
    TrueB (decide (qq = bisect (fun m => fle (fmul (sinP m) X) (fmul (cosP m) Y)) lo ((lo + hi) / 2))) := by
  subst hX; subst hY; exact ang_no hb hd t h1 h2

set_option maxHeartbeats 1000000 in
theorem angleOf_no1 (y x : Nat) (w : World) (hx : finP (can x) = false) : Calls Tryd.prog 36 #[.float .f64 y, .float .f64 x] w (AnR (0, false) w) := by
  have HF := finR_c x
  have HG := finR_c y
  rw [hx] at HF
  have HF' := Lib.hid HF
  have HG' := Lib.hid HG
  clear HF HG hx
  go_enter Tryd.func36, Tryd.ntmps36
  go_wp2_with fail
  refine (HF'.out _).mono ?_
  rintro e w1 ⟨rfl, hx1⟩
  go_wp2_with fail
  refine (HG'.out _).mono ?_
  rintro e w2 ⟨rfl, hx2⟩
  go_wp2_with fail
  go_ret2
  exact ⟨rfl, hx1.trans hx2⟩
set_option maxHeartbeats 1000000 in
theorem angleOf_no2 (y x : Nat) (w : World) (hx : finP (can x) = true) (hy : finP (can y) = false) : Calls Tryd.prog 36 #[.float .f64 y, .float .f64 x] w (AnR (0, false) w) := by
  have HF := finR_c x
  have HG := finR_c y
  rw [hx] at HF
  rw [hy] at HG
  have HF' := Lib.hid HF
  have HG' := Lib.hid HG
  clear HF HG hx hy
  go_enter Tryd.func36, Tryd.ntmps36
  go_wp2_with fail
  refine (HF'.out _).mono ?_
  rintro e w1 ⟨rfl, hx1⟩
  go_wp2_with fail
  refine (HG'.out _).mono ?_
  rintro e w2 ⟨rfl, hx2⟩
  go_wp2_with fail
  go_ret2
  exact ⟨rfl, hx1.trans hx2⟩
set_option maxHeartbeats 1000000 in
theorem angleOf_no3 (y x : Nat) (w : World) (hx : finP (can x) = true) (hy : finP (can y) = true) (hx0 : (D.order x 0 == some .eq) = true) (hy0 : (D.order y 0 == some .eq) = true) :
    Calls Tryd.prog 36 #[.float .f64 y, .float .f64 x] w (AnR (0, false) w) := by
  have HF := finR_c x
  have HG := finR_c y
  rw [hx] at HF
  rw [hy] at HG
  have HF' := Lib.hid HF
  have HG' := Lib.hid HG
  clear HF HG hx hy
  have hx0' : (FloatKind.f64.format.order x 0 == some .eq) = true := hx0
  have hy0' : (FloatKind.f64.format.order y 0 == some .eq) = true := hy0
  clear hx0 hy0
  go_enter Tryd.func36, Tryd.ntmps36
  go_wp2_with fail
  refine (HF'.out _).mono ?_
  rintro e w1 ⟨rfl, hx1⟩
  go_wp2_with fail
  refine (HG'.out _).mono ?_
  rintro e w2 ⟨rfl, hx2⟩
  go_wp2_with fail
  go_ret2
  exact ⟨rfl, hx1.trans hx2⟩

set_option maxHeartbeats 8000000 in
theorem angleOf_yes (y x : Nat) (w : World) (hx : finP (can x) = true) (hy : finP (can y) = true) (ox oy : Ordering) (hox : FloatKind.f64.format.order x 0 = some ox) (hoy : FloatKind.f64.format.order y 0 = some oy) (hne : ¬ (ox = .eq ∧ oy = .eq)) :
    Calls Tryd.prog 36 #[.float .f64 y, .float .f64 x] w (AnR (angleP (can y) (can x)) w) := by
  have HF := finR_c x
  have HG := finR_c y
  have hcx := fin_num hx
  have hcy := fin_num hy
  have HA : angleP (can y) (can x) = angleP y x := by rw [hcx, hcy]
  have HP : angleP y x = if fge x 0 && fge y 0 then (quad (absW x) (absW y), true) else if fge y 0 then (180000000000 - quad (absW x) (absW y), true) else if flt x 0 then (180000000000 + quad (absW x) (absW y), true) else (normP (360000000000 - quad (absW x) (absW y)), true) := by
    unfold angleP
    rw [hcx] at hx
    rw [hcy] at hy
    have h3 : (feq x 0 && feq y 0) = false := by
      unfold feq
      rw [show D.order x 0 = some ox from hox, show D.order y 0 = some oy from hoy]
      cases ox <;> cases oy <;> simp_all
    rw [hx, hy, h3]
    rfl
  rw [HA, HP]
  rw [hx] at HF
  rw [hy] at HG
  have HF' := Lib.hid HF
  have HG' := Lib.hid HG
  unfold fge flt
  rw [show D.order x 0 = some ox from hox, show D.order y 0 = some oy from hoy]
  clear HF HG HA HP hx hy
  have hnx : isNan x = false := by
    cases hn : isNan x
    · rfl
    · rw [can_of_nan hn] at hcx; rw [← hcx] at hox; exact absurd hox (by rw [show FloatKind.f64.format.order QN 0 = none from by decide +kernel]; simp)
  have hny : isNan y = false := by
    cases hn : isNan y
    · rfl
    · rw [can_of_nan hn] at hcy; rw [← hcy] at hoy; exact absurd hoy (by rw [show FloatKind.f64.format.order QN 0 = none from by decide +kernel]; simp)
  have HU := quad_ref hnx hny
  have hux : refAbs x = if D.order x 0 == some .lt then Op.negFloat .f64 x else x := rfl
  have huy : refAbs y = if D.order y 0 == some .lt then Op.negFloat .f64 y else y := rfl
  rw [show D.order x 0 = some ox from hox] at hux
  rw [show D.order y 0 = some oy from hoy] at huy
  clear hnx hny
  generalize refAbs x = ux at *
  generalize refAbs y = uy at *
  generalize quad (absW x) (absW y) = qq at *
  have HU' := Lib.hid HU
  have HX := Lib.hid hcx
  have HY := Lib.hid hcy
  clear HU hcx hcy
  have HUX : Hid (ux = if (some ox == some Ordering.lt) = true then Op.negFloat .f64 x else x) := hux
  have HUY : Hid (uy = if (some oy == some Ordering.lt) = true then Op.negFloat .f64 y else y) := huy
  clear hux huy
  cases ox <;> cases oy
  any_goals (exfalso; exact hne ⟨rfl, rfl⟩)
  all_goals clear hne
  all_goals
    go_enter Tryd.func36, Tryd.ntmps36
    go_wp2_with fail
    refine (HF'.out _).mono ?_
    rintro e w1 ⟨rfl, hx1⟩
    go_wp2_with fail
    refine (HG'.out _).mono ?_
    rintro e w2 ⟨rfl, hx2⟩
    go_wp2_with fail
    have hw := hx1.trans hx2
    clear hx1 hx2 HF' HG'
    go_loopw [10, 11] (fun l h wr => ∃ lo hi : Int, l = .int .i64 lo ∧ h = .int .i64 hi ∧ 0 ≤ lo ∧ lo < hi ∧ hi ≤ 90000000001 ∧ TrueB (decide (qq = bisect (fun m => fle (fmul (sinP m) ux) (fmul (cosP m) uy)) lo hi)) ∧ Ext w wr) (fun l h _ => (intOf h - intOf l).toNat)
    case atStart => exact ⟨0, 90000000001, rfl, rfl, by omega, by omega, by omega, decide_eq_true HU'.out, hw⟩
    case round =>
      clear hw
      obtain ⟨lo, hi, rfl, rfl, h1, h2, h3, hb, hxw⟩ := hrel
      by_cases hd : 1 < hi - lo
      · go_wp2_with (first | (go_at_call 34; refine (sincos_c _ _).mono ?_; rintro e w' ⟨rfl, rfl⟩) | (with_reducible refine upon_fl rfl ?_; intro r n hr))
        · go_roundw
          case rel => exact ⟨_, _, rfl, rfl, by omega, by omega, by omega, ang_yes' HUX.out.symm HUY.out.symm hb hd (by assumption) (by assumption) (by assumption), hxw.drewN _⟩
          case measure => simp only [intOf]; omega
        · go_roundw
          case rel => exact ⟨_, _, rfl, rfl, by omega, by omega, by omega, ang_no' HUX.out.symm HUY.out.symm hb hd (by assumption) (by assumption) (by assumption), hxw.drewN _⟩
          case measure => simp only [intOf]; omega
      · have := ang_end hb hd
        subst this
        clear hb
        go_wp2_with (first | (go_at_call 44; refine (normOf_c _ _).mono ?_; rintro e w' ⟨rfl, rfl⟩))
        go_ret2
        exact ⟨rfl, hxw⟩

theorem angleOf_c (y x : Nat) (w : World) : Calls Tryd.prog 36 #[.float .f64 y, .float .f64 x] w (AnR (angleP (can y) (can x)) w) := by
  cases hx : finP (can x) with
  | false =>
    have e : angleP (can y) (can x) = (0, false) := by unfold angleP; rw [hx]; rfl
    rw [e]; exact angleOf_no1 y x w hx
  | true =>
    cases hy : finP (can y) with
    | false =>
      have e : angleP (can y) (can x) = (0, false) := by unfold angleP; rw [hx, hy]; rfl
      rw [e]; exact angleOf_no2 y x w hx hy
    | true =>
      have hcx := fin_num hx
      have hcy := fin_num hy
      have hnx : isNan x = false := by
        cases hn : isNan x
        · rfl
        · rw [can_of_nan hn] at hx; exact absurd hx (by decide +kernel)
      have hny : isNan y = false := by
        cases hn : isNan y
        · rfl
        · rw [can_of_nan hn] at hy; exact absurd hy (by decide +kernel)
      obtain ⟨ox, hox⟩ := order_some hnx
      obtain ⟨oy, hoy⟩ := order_some hny
      by_cases hne : ox = .eq ∧ oy = .eq
      · obtain ⟨rfl, rfl⟩ := hne
        have hx0 : (D.order x 0 == some .eq) = true := by rw [hox]; rfl
        have hy0 : (D.order y 0 == some .eq) = true := by rw [hoy]; rfl
        have e : angleP (can y) (can x) = (0, false) := by
          unfold angleP feq
          rw [hx, hy, hcx, hcy, hx0, hy0]; rfl
        rw [e]; exact angleOf_no3 y x w hx hy hx0 hy0
      · exact angleOf_yes y x w hx hy ox oy hox hoy hne
end Go.Proofs.YtfhpnkmpjijebaaDoor

/- Walks: signed angles, the angle of a point as an integer, the same vector. -/
namespace Go.Proofs.YtfhpnkmpjijebaaDoor
open Go.RowKit Go.Fp Go.Rel
set_option maxRecDepth 20000

/-- an angle between half a turn back and half a turn -/
def signP (a : Int) : Int := if 180000000000 < normP a then normP a - 360000000000 else normP a
theorem norm_range (a : Int) : 0 ≤ normP a ∧ normP a < 360000000000 := by
  unfold normP
  omega

theorem signed_c (a : Int) (w : World) : Calls Tryd.prog 18 #[.int .i64 a] w (ExR (.int .i64 (signP a)) w) := by
  obtain ⟨n1, n2⟩ := norm_range a
  have HN := Lib.hid (norm_c a)
  unfold signP
  generalize normP a = n at *
  by_cases h : 180000000000 < n
  · rw [if_pos h]
    go_enter Tryd.func18, Tryd.ntmps18
    go_wp2_with (first | (go_at_call 19; refine (HN.out _).mono ?_; rintro e w' ⟨rfl, rfl⟩))
    go_ret
    exact ⟨rfl, Ext.refl _⟩
  · rw [if_neg h]
    go_enter Tryd.func18, Tryd.ntmps18
    go_wp2_with (first | (go_at_call 19; refine (HN.out _).mono ?_; rintro e w' ⟨rfl, rfl⟩))
    go_ret
    exact ⟨rfl, Ext.refl _⟩
/-- the angle of a point, signed -/
def angS (Y X : Nat) : Int := signP (angleP Y X).1
theorem refAngle_c (y x : Nat) (w : World) : Calls Tryd.prog 14 #[.float .f64 y, .float .f64 x] w (ExR (.int .i64 (angleP (can y) (can x)).1) w) := by
  have HA := Lib.hid (angleOf_c y x)
  generalize angleP (can y) (can x) = p at *
  go_enter Tryd.func14, Tryd.ntmps14
  go_wp2_with (first | (go_at_call 36; refine (HA.out _).mono ?_; rintro e w' ⟨rfl, hx⟩))
  go_ret
  exact ⟨rfl, hx⟩

abbrev vecV (x y z : Nat) : Value := .agg #[.float .f64 x, .float .f64 y, .float .f64 z]
end Go.Proofs.YtfhpnkmpjijebaaDoor

/- The angle of a point whose sides are a little off. -/
namespace Go.Fp.Tri
open Go.Fp Ieee
set_option maxRecDepth 20000

theorem le_of_scaled {R a b : Rat} (hR : 0 < R) (h : R * a ≤ R * b) : a ≤ b := Rat.le_of_mul_le_mul_left h hR
/-! sizes, and the angle with its sign -/
theorem abs_read {x : Nat} {s : Bool} {m : Nat} {i : Int} (h : D.read x = .number s m i) : D.read (absW x) = .number false m i := by
  obtain ⟨h1, h2⟩ := abs_parts x
  unfold Format.read at *
  simp only [D_sign, D_inf, D_bin, D_least] at *
  rw [h1, h2]
  split at h
  · rename_i hc
    rw [if_pos hc]
    cases h; rfl
  · rename_i hc
    rw [if_neg hc]
    split at h
    · rename_i hc2
      rw [if_pos hc2]
      cases h; rfl
    · split at h <;> cases h
theorem vl_abs {x : Nat} (hx : Fin x) : Fin (absW x) ∧ vl (absW x) = rabs (vl x) := by
  obtain ⟨s, m, i, h⟩ := hx
  have h' := abs_read h
  refine ⟨⟨_, _, _, h'⟩, ?_⟩
  rw [vl_of h, vl_of h', vd_sign s]
  have := vd_nonneg m i
  unfold rabs
  cases s
  · simp only [Bool.false_eq_true, if_false]
    split <;> grind
  · simp only [if_true]
    split <;> grind
theorem v_0 : Fin 0 ∧ vl 0 = 0 := by
  have h : D.read 0 = .number false 0 (-1074) := by decide +kernel
  refine ⟨⟨_, _, _, h⟩, ?_⟩
  rw [vl_of h]
  unfold vd
  simp
theorem fin_fin {x : Nat} (hx : Fin x) : finP x = true := by
  obtain ⟨s, m, i, h⟩ := hx
  have e : D.sub x x = some 0 := by
    have h2 : (Datum.number s m i).sum (Datum.number s m i).opposite = some (.number false 0 i) := by
      cases s <;> simp [Datum.sum, Datum.opposite, signed] <;> omega
    unfold Format.sub
    rw [h, h2]
    show some (D.nearest false 0 i) = some 0
    unfold Format.nearest
    simp [Format.word]
  have e2 : fsub x x = 0 := by unfold fsub; rw [e]; rfl
  unfold finP
  rw [e2]
  decide +kernel
theorem quad_range (u w : Nat) : 0 ≤ quad u w ∧ quad u w ≤ 90000000000 := ⟨(quad_ok u w).1, (quad_ok u w).2.1⟩
theorem fge_0 {x : Nat} (hx : Fin x) : fge x 0 = true ↔ 0 ≤ vl x := by rw [fge_vl hx v_0.1, v_0.2]
theorem flt_0 {x : Nat} (hx : Fin x) : flt x 0 = true ↔ vl x < 0 := by
  unfold flt
  simp only [beq_iff_eq]
  rw [order_lt hx v_0.1, v_0.2]
theorem feq_0 {x : Nat} (hx : Fin x) : feq x 0 = true ↔ vl x = 0 := by
  unfold feq
  simp only [beq_iff_eq]
  rw [order_eq hx v_0.1, v_0.2]
/-- the angle of a point, by the signs of its sides -/
theorem angle_pp {y x : Nat} (hy : Fin y) (hx : Fin x) (h : vl x ≠ 0 ∨ vl y ≠ 0) (h1 : 0 ≤ vl x) (h2 : 0 ≤ vl y) : (angleP y x).1 = quad (absW x) (absW y) := by
  have e : (!finP x || !finP y || (feq x 0 && feq y 0)) = false := by
    rw [fin_fin hx, fin_fin hy]
    cases h3 : feq x 0 <;> cases h4 : feq y 0 <;> first | rfl | skip
    have a := (feq_0 hx).1 h3
    have b := (feq_0 hy).1 h4
    rcases h with h | h <;> contradiction
  unfold angleP
  rw [e]
  have a := (fge_0 hx).2 h1
  have b := (fge_0 hy).2 h2
  simp [a, b]
theorem angle_np {y x : Nat} (hy : Fin y) (hx : Fin x) (h1 : vl x < 0) (h2 : 0 ≤ vl y) : (angleP y x).1 = 180000000000 - quad (absW x) (absW y) := by
  have e : (!finP x || !finP y || (feq x 0 && feq y 0)) = false := by
    rw [fin_fin hx, fin_fin hy]
    cases h3 : feq x 0 <;> cases h4 : feq y 0 <;> first | rfl | skip
    have a := (feq_0 hx).1 h3
    grind
  unfold angleP
  rw [e]
  have a : fge x 0 = false := by
    cases h3 : fge x 0
    · rfl
    · have := (fge_0 hx).1 h3; grind
  have b := (fge_0 hy).2 h2
  simp [a, b]
theorem angle_nn {y x : Nat} (hy : Fin y) (hx : Fin x) (h1 : vl x < 0) (h2 : vl y < 0) : (angleP y x).1 = 180000000000 + quad (absW x) (absW y) := by
  have e : (!finP x || !finP y || (feq x 0 && feq y 0)) = false := by
    rw [fin_fin hx, fin_fin hy]
    cases h3 : feq x 0 <;> cases h4 : feq y 0 <;> first | rfl | skip
    have a := (feq_0 hx).1 h3
    grind
  unfold angleP
  rw [e]
  have a : fge x 0 = false := by
    cases h3 : fge x 0
    · rfl
    · have := (fge_0 hx).1 h3; grind
  have b : fge y 0 = false := by
    cases h3 : fge y 0
    · rfl
    · have := (fge_0 hy).1 h3; grind
  have c := (flt_0 hx).2 h1
  simp [a, b, c]
theorem angle_pn {y x : Nat} (hy : Fin y) (hx : Fin x) (h1 : 0 ≤ vl x) (h2 : vl y < 0) : (angleP y x).1 = normP (360000000000 - quad (absW x) (absW y)) := by
  have e : (!finP x || !finP y || (feq x 0 && feq y 0)) = false := by
    rw [fin_fin hx, fin_fin hy]
    cases h3 : feq x 0 <;> cases h4 : feq y 0 <;> first | rfl | skip
    have a := (feq_0 hy).1 h4
    grind
  unfold angleP
  rw [e]
  have b : fge y 0 = false := by
    cases h3 : fge y 0
    · rfl
    · have := (fge_0 hy).1 h3; grind
  have c : flt x 0 = false := by
    cases h3 : flt x 0
    · rfl
    · have := (flt_0 hx).1 h3; grind
  simp [b, c]
end Go.Fp.Tri
namespace Go.Proofs.YtfhpnkmpjijebaaDoor
open Go.Fp Go.Fp.Tri
end Go.Proofs.YtfhpnkmpjijebaaDoor

/- Walks: the vector of a place on a globe, the program's and the reference's. -/
namespace Go.Proofs.YtfhpnkmpjijebaaDoor
open Go.RowKit Go.Fp Go.Rel
set_option maxRecDepth 20000

theorem btw_true {x lo hi : Nat} (h : btw x lo hi = true) : (FloatKind.f64.format.order x lo = some .gt ∨ FloatKind.f64.format.order x lo = some .eq) ∧ (FloatKind.f64.format.order x hi = some .lt ∨ FloatKind.f64.format.order x hi = some .eq) := by
  have hD : FloatKind.f64.format = D := rfl
  rw [hD]
  simpa [btw, fge, fle] using h
abbrev cLo : Nat := 13935002356576944128
abbrev cHi : Nat := 4741671816366391296
abbrev cOne : Nat := 4607182418800017408
def vecD (a f : Nat) (lat : Int) (high : Nat) : Nat := fmul (fadd (crossP a f lat) (can high)) (can (cosP lat))
def vecZ (a f : Nat) (lat : Int) (high : Nat) : Nat := fmul (fadd (fmul (crossP a f lat) (fsub (can cOne) (eccP f))) (can high)) (can (sinP lat))

/-- the vector of a place, or the error's number -/
inductive VecIs (a f : Nat) (lon lat : Int) (high : Nat) : Nat → Nat → Nat → Int → Prop
  | shape (h : okG a f = false) : VecIs a f lon lat high 0 0 0 3
  | range1 (h : okG a f = true) (h1 : 90000000000 < lat) : VecIs a f lon lat high 0 0 0 4
  | range2 (h : okG a f = true) (h1 : lat ≤ 90000000000) (h2 : lat < -90000000000) : VecIs a f lon lat high 0 0 0 4
  | range3 (h : okG a f = true) (h1 : lat ≤ 90000000000) (h2 : -90000000000 ≤ lat) (h3 : btw high cLo cHi = false) : VecIs a f lon lat high 0 0 0 4
  | ok (h : okG a f = true) (h1 : lat ≤ 90000000000) (h2 : -90000000000 ≤ lat) (h3 : btw high cLo cHi = true) :
    VecIs a f lon lat high (fmul (vecD a f lat high) (can (cosP lon))) (fmul (vecD a f lat high) (can (sinP lon))) (vecZ a f lat high) 0
abbrev placeV (lon lat : Int) : Value := .agg #[.int .i64 lon, .int .i64 lat]
def VecR (A : Nat → Addr) (X Y Z : Nat) (k : Int) (w : World) (e : Ending) (w' : World) : Prop :=
  ∃ x y z v, e = .returned (.tuple #[vecV x y z, v]) ∧ can x = X ∧ can y = Y ∧ can z = Z ∧ ErrOf A k v ∧ Ext w w'

theorem can0 : can 0 = 0 := can_of_not (by decide +kernel)

/-- of a call with one integer: what it hands back -/
def SpInt (f : Int → Value) (args : Array Value) (v : Value) : Prop := ∃ a : Int, args = #[.int .i64 a] ∧ v = f a
/-- why a place or a height is refused -/
def RangeV (lat : Int) (high : Nat) : Prop := 90000000000 < lat ∨ (lat ≤ 90000000000 ∧ lat < -90000000000) ∨ (lat ≤ 90000000000 ∧ -90000000000 ≤ lat ∧ btw high cLo cHi = false)

end Go.Proofs.YtfhpnkmpjijebaaDoor
