/- The walk of the statement WaveAngles, joined; the list of its row, a start that meets it. -/
import Derived.Test.YtcppgbhjbmfldaaDoorWU
import Derived.Test.YtcppgbhjbmfldaaDoorZB
import Derived.Test.YtcppgbhjbmfldaaDoorZB
namespace Go.Proofs.YtcppgbhjbmfldaaDoor
open Go.ChangeShapes Go.WideShapes Go.ChangeAt Go.RowKit Go.Joins Go.Rel Go.Fp Go.Fp.Tri
set_option maxRecDepth 20000
theorem v_c6e6 : Fp.Fin c6e6 ∧ vl c6e6 = 6000000 := vl_const (s := false) (m := 6442450944000000) (k := 30) (by decide +kernel) (by decide +kernel)
theorem v_c7e6 : Fp.Fin c7e6 ∧ vl c7e6 = 7000000 := vl_const (s := false) (m := 7516192768000000) (k := 30) (by decide +kernel) (by decide +kernel)
theorem v_c004 : Fp.Fin c004 ∧ vl c004 = 4611686018427388 / 1152921504606846976 := vl_const (s := false) (m := 4611686018427388) (k := 60) (by decide +kernel) (by decide +kernel)
theorem snd_ang {a f : Nat} (b1 : fge a c6e6 = true) (b2 : fle a c7e6 = true) (b3 : fge f 0 = true) (b4 : fle f c004 = true) : Snd a f 0 ∧ vl f ≤ 40001 / 10000000 := by
  have z : Fp.Fin 0 ∧ vl 0 = 0 := v_0
  obtain ⟨x1, x2, x3⟩ := btw_vl v_c6e6.1 v_c7e6.1 b1 b2
  obtain ⟨y1, y2, y3⟩ := btw_vl z.1 v_c004.1 b3 b4
  rw [v_c6e6.2] at x2
  rw [v_c7e6.2] at x3
  rw [z.2] at y2
  rw [v_c004.2] at y3
  exact ⟨⟨x1, by grind, by grind, y1, y2, by grind, z.1, by rw [z.2]; grind, by rw [z.2]; grind⟩, by grind⟩
theorem scale_of' {g : Bool} {sc : Nat} (h : strP g sc = 0) : Fp.Fin sc ∧ 99 / 1000 ≤ vl sc ∧ vl sc ≤ 10 := by
  have hb := (strP_ok h).2
  have w1 : Fp.Fin 4591870180066957722 ∧ vl 4591870180066957722 = 7205759403792794 / 72057594037927936 := vl_const (s := false) (m := 7205759403792794) (k := 56) (by decide +kernel) (by decide +kernel)
  have w2 : Fp.Fin 4621819117588971520 ∧ vl 4621819117588971520 = 10 := vl_const (s := false) (m := 5629499534213120) (k := 49) (by decide +kernel) (by decide +kernel)
  unfold btw at hb
  rw [Bool.and_eq_true] at hb
  obtain ⟨z1, z2, z3⟩ := btw_vl w1.1 w2.1 hb.1 hb.2
  rw [w1.2] at z2
  rw [w2.2] at z3
  exact ⟨z1, by grind, z3⟩
theorem fl_of {P : Program} {f : FuncId} {args : Array Value} {X : Nat} {W : World} (hX : Fp.Fin X) (h : Calls P f args W (FlR X W)) : Calls P f args W (ExR (.float .f64 X) W) :=
  h.mono fun _ _ ⟨r, he, hr, hx⟩ => ⟨by rw [he, real_eq hr hX], hx⟩
theorem to_of {a f : Nat} {mid : Int} {sc : Nat} {lon lat : Int} (hk : strP (okG a f) sc = 0) (hl : lookK 0 lat (signP (dS mid lon)) = 0) (fX : Fp.Fin (stripX a f sc (uS f lat (dS mid lon)) (vS f lat (dS mid lon)))) (fY : Fp.Fin (stripY a f sc (uS f lat (dS mid lon)) (vS f lat (dS mid lon)))) (w : World) :
    Calls Tryd.prog 18 #[stripV a f mid sc, placeU lon lat] w (ExR (.tuple #[flatU (stripX a f sc (uS f lat (dS mid lon)) (vS f lat (dS mid lon))) (stripY a f sc (uS f lat (dS mid lon)) (vS f lat (dS mid lon))), .nilIface]) w) := by
  refine (sto_ok0 (A := fun _ => ⟨0, 0, none⟩) a f mid sc lon lat w ⟨⟩ hk hl).mono ?_
  rintro e w' ⟨x, y, rfl, hx, hy, hw⟩
  exact ⟨by rw [real_eq hx fX, real_eq hy fY], hw⟩
theorem look_is {lat off : Int} (h1 : -89000000000 ≤ lat) (h2 : lat ≤ 89000000000) (h3 : -45000000000 ≤ off) (h4 : off ≤ 45000000000) : lookK 0 lat off = 0 := by
  unfold lookK
  rw [if_neg (by omega), if_neg (by omega)]
theorem gt_of {x : Nat} (fx : Fp.Fin x) (h : 0 < vl x) : (FloatKind.f64.format.order x 0 == some .gt) = true := by
  have z : Fp.Fin 0 ∧ vl 0 = 0 := v_0
  have := (order_gt fx z.1).2 (by rw [z.2]; exact h)
  show (D.order x 0 == some .gt) = true
  rw [this]; rfl
/-- the told words -/
theorem told_ang {a f sc : Nat} {mid lon lat : Int} (g : Snd a f 0) (h1 : vl f ≤ 40001 / 10000000) (hk : strP (okG a f) sc = 0) (l1 : -70000000000 ≤ lat) (l2 : lat ≤ 70000000000) (t1 : -6000000000 ≤ signP (dS mid lon)) (t2 : signP (dS mid lon) ≤ 6000000000) :
    ∃ (E tu : Int) (sq s1 c1 a1 a2 ww b1 b2 b3 b4 X0 Y0 X1 Y1 X2 Y2 nx ny rx ry n1 n2 lg r1 r2 r3 dd t2 p1 p2 p3 t1 q1 q2 q3 scl sn cn len cr e1 e2 mm f1 f2 f3 f4 g1 g2 g3 h1 h2 : Nat),
      ToldN a f mid sc lon lat E tu sq s1 c1 a1 a2 ww b1 b2 b3 b4 X0 Y0 X1 Y1 X2 Y2 nx ny rx ry n1 n2 lg r1 r2 r3 dd t2 p1 p2 p3 t1 q1 q2 q3 scl sn cn len cr e1 e2 mm f1 f2 f3 f4 g1 g2 g3 h1 h2 := by
  obtain ⟨fsc, s1, s2⟩ := scale_of' hk
  obtain ⟨E, hv, E0, E1, ⟨o1, o2⟩, ⟨a1, a2, a3, a4, a5, a6, a7, a8, a9, a10⟩, ⟨c1, c2, c3, c4, c5⟩, tt⟩ := angles_told g h1 fsc s1 s2 l1 l2 t1 t2
  obtain ⟨_, _, _, _, _, _, _, rn1, rn2, n1, n2, n3, k0, k1⟩ := parts_near g h1 l1 l2
  have w0 : vl (wF f lat) ≠ 0 := by
    have := rn2.1
    have := rn2.2.1
    grind
  have b0 : vl (fmul (wF f lat) (cosP lat)) ≠ 0 := by
    have kp : 0 < vl (cosP lat) := by grind
    have wk := mul_mono (show (0 : Rat) ≤ 99 / 100 by grind) n2 (show (0 : Rat) ≤ 34199 / 100000 by grind) k0
    have wk1 := mul_mono (show 0 ≤ 1 - vl (fsqrt (eccP f)) * vl (fsqrt (eccP f)) * (vl (sinP lat) * vl (sinP lat)) by grind) n3 (Rat.le_of_lt kp) k1
    obtain ⟨_, p, q, _⟩ := rn_mul a7 a3 rn2 (Rn.refl kp) (by grind) (by grind) (by grind) (by grind)
    grind
  obtain ⟨⟨f1, f2, f3, f4, f5, f6, f7, f8, f9⟩, ⟨g1, g2, g3, g4⟩, ⟨i1, i2, i3, i4, i5, i6⟩, ⟨j1, j2, j3⟩, ⟨k1', k2', k3', k4', k5'⟩, ⟨m1, m2, m3, m4⟩, ⟨p1, p2⟩, ⟨q1, q2, q3, q4⟩, ⟨r1, r2, r3, r4⟩, ⟨u1, u2⟩⟩ := tt
  have nr := norm_range lon
  have v02 := v_002.1
  have v01 := v_001.1
  have z : Fp.Fin 0 ∧ vl 0 = 0 := v_0
  exact ⟨E, turnA f (dS mid lon) (uS f lat (dS mid lon)) (tS f lat) (vS f lat (dS mid lon)), _, _, _, _, _, _, _, _, _, _, _, _, _, _, _, _, _, _, _, _, _, _, _, _, _, _, _, _, _, _, _, _, _, _, _, _, _, _, _, _, _, _, _, _, _, _, _, _, _, _, _, _, {
    sqc := fun w => fl_of a1 (squareOf_c a f w), sic := fun w => (sincos_c lat w).mono (fun _ _ ⟨he, hw⟩ => ⟨he, hw ▸ Ext.refl _⟩),
    a1e := times_run a1 a2, a2e := times_run a4 a2, wwe := minus_run v_one.1 a5, b1e := minus_run v_one.1 a1, b2e := times_run v_cE7.1 a6, b3e := times_run a7 a3, b4e := over_run a8 a9 b0,
    nxe := minus_run f3 f1, nye := minus_run f4 f2, rxe := minus_run f5 f1, rye := minus_run f6 f2, n1e := times_run g1 g1, n2e := times_run g2 g2, lge := plus_run i1 i2, r1e := times_run g3 g3, r2e := times_run g4 g4, r3e := plus_run i4 i5,
    dde := minus_run i6 i3, t2e := times_run v02 i3, p1e := times_run g1 g3, p2e := times_run g2 g4, p3e := plus_run k1' k2', t1e := times_run v01 i3, q1e := times_run g3 g2, q2e := times_run g4 g1, q3e := minus_run m1 m2,
    e1e := times_run c1 a6, e2e := over_run c2 a7 w0, mme := times_run c3 v_cG2.1, f1e := times_run g1 f8, f2e := times_run g2 f7, f3e := plus_run q1 q2, f4e := times_run v01 p1, g1e := times_run g2 f8, g2e := times_run g1 f7, g3e := minus_run r1 r2, h1e := times_run c5 c4, h2e := minus_run p1 f9,
    cve := fun w => conv_run' w hv, to0 := to_of hk (look_is (by omega) (by omega) (by omega) (by omega)) f1 f2, to1 := to_of hk (look_is (by omega) (by omega) (by omega) (by omega)) f3 f4, to2 := to_of hk (look_is (by omega) (by omega) o1 o2) f5 f6,
    wl := IntWalk.i64_in _ ⟨by omega, by omega⟩, we := IntWalk.i64_in _ ⟨by omega, by omega⟩,
    wi1 := within_true j1 j2 j3, wi2 := within_true k3' k4' k5', wi3 := within_true q3 p2 q4, wi4 := within_true u1 p2 u2, gt1 := gt_of m3 m4, gt2 := gt_of r3 r4,
    trn := fun w => (turn_ok0 (A := fun _ => ⟨0, 0, none⟩) a f mid sc lon lat w ⟨⟩ hk (look_is (by omega) (by omega) (by omega) (by omega))).mono (fun _ _ ⟨m, he, hm, hx⟩ => ⟨by rw [he, real_eq hm c5], hx⟩),
    sct := fun w => (sincos_c _ w).mono (fun _ _ ⟨he, hw⟩ => ⟨he, hw ▸ Ext.refl _⟩),
    lnc := fun w => fl_of p1 ((lengthOf_c _ _ _ w).mono (fun _ _ ⟨r, he, hr, hx⟩ => ⟨r, he, by rw [hr, g1.can, g2.can, z.1.can], hx⟩)),
    crc := fun w => fl_of c1 (crossOf_c a f lat w) }⟩
theorem off_of' {mid lon D0 : Int} (h : ¬ D0 < (if apartP lon mid < 0 then -apartP lon mid else apartP lon mid)) : -D0 ≤ signP (dS mid lon) ∧ signP (dS mid lon) ≤ D0 := by
  have e : apartP lon mid = signP (dS mid lon) := rfl
  rw [e] at h
  generalize signP (dS mid lon) = z at *
  split at h <;> omega
theorem waveAngles_walk (a f : Nat) (mid : Int) (sc : Nat) (lon lat : Int) (w : World) : Calls Tryd.prog 4 #[stripV a f mid sc, placeU lon lat] w (ExR (.bool true) w) := by
  cases b1 : fge a c6e6 with
  | false => exact wa_not1 a f mid sc lon lat w b1
  | true =>
  cases b2 : fle a c7e6 with
  | false => exact wa_not2 a f mid sc lon lat w b1 b2
  | true =>
  cases b3 : fge f 0 with
  | false => exact wa_not3 a f mid sc lon lat w b1 b2 b3
  | true =>
  cases b4 : fle f c004 with
  | false => exact wa_not4 a f mid sc lon lat w b1 b2 b3 b4
  | true =>
    rcases strP_cases (okG a f) sc with hp | hp
    · by_cases hl : 70000000000 < lat
      · exact wa_out2 a f mid sc lon lat w b1 b2 b3 b4 hp hl
      by_cases hl2 : lat < -70000000000
      · exact wa_out3 a f mid sc lon lat w b1 b2 b3 b4 hp hl hl2
      by_cases hg : 6000000000 < (if apartP lon mid < 0 then -apartP lon mid else apartP lon mid)
      · exact wa_out4 a f mid sc lon lat w b1 b2 b3 b4 hp hl hl2 hg
      obtain ⟨g, h1⟩ := snd_ang b1 b2 b3 b4
      obtain ⟨t1, t2⟩ := off_of' hg
      obtain ⟨E, tu, sq, s1, c1, a1, a2, ww, b1', b2', b3', b4', X0, Y0, X1, Y1, X2, Y2, nx, ny, rx, ry, n1, n2, lg, r1, r2, r3, dd, t2', p1, p2, p3, t1', q1, q2, q3, scl, sn, cn, len, cr, e1, e2, mm, f1, f2, f3, f4, g1, g2, g3, h1', h2', told⟩ := told_ang g h1 hp (show -70000000000 ≤ lat by omega) (show lat ≤ 70000000000 by omega) t1 t2
      exact wa_in a f mid sc lon lat E tu _ _ _ _ _ _ _ _ _ _ _ _ _ _ _ _ _ _ _ _ _ _ _ _ _ _ _ _ _ _ _ _ _ _ _ _ _ _ _ _ _ _ _ _ _ _ _ _ _ _ _ _ w b1 b2 b3 b4 hp hl hl2 hg told
    · exact wa_out1 a f mid sc lon lat w b1 b2 b3 b4 hp
/-- the list, as the row has it -/
abbrev laid2 : List (String × DataW Unit) := [("mercator/api.ErrShape", Rows.laid_mercator_api_ErrShape), ("mercator/api.ErrRange", Rows.laid_mercator_api_ErrRange)]
/-- The door's own heap meets the list. -/
theorem door2 (os : Os) (args : Array Value) : laidMetH Tryd.prog laid2 ((World.doorLaid Tryd.prog 400 os).forCall (fun _ _ => 0) ⟨#[], args, []⟩).memory :=
  show laidMet Tryd.prog laid2 _ from laidMet_of_run' 8 (by kernel_rfl) (by kernel_rfl)
end Go.Proofs.YtcppgbhjbmfldaaDoor
