/- What the walk of the statement WaveGood is told. Printed by gen_wavelaw.py. -/
import Derived.Test.YtddjppaccpioiaaDoorBF
import Derived.Test.YtddjppaccpioiaaDoorBD
namespace Go.Proofs.YtddjppaccpioiaaDoor
open Go.RowKit Go.Fp Go.Fp.Tri Go.Rel
set_option maxRecDepth 20000
abbrev c1e6 : Nat := 4696837146684686336
abbrev c1e7 : Nat := 4711630319722168320
abbrev c01 : Nat := 4576918229304087675
abbrev c004 : Nat := 4571261708172110332
abbrev c2000 : Nat := 4656510908468559872
abbrev c5e5 : Nat := 4692333547057315840
theorem v_1e6 : Fp.Fin c1e6 ∧ vl c1e6 = 1000000 := vl_const (s := false) (m := 8589934592000000) (k := 33) (by decide +kernel) (by decide +kernel)
theorem v_1e7 : Fp.Fin c1e7 ∧ vl c1e7 = 10000000 := vl_const (s := false) (m := 5368709120000000) (k := 29) (by decide +kernel) (by decide +kernel)
theorem v_01 : Fp.Fin c01 ∧ vl c01 = 5764607523034235 / 576460752303423488 := vl_const (s := false) (m := 5764607523034235) (k := 59) (by decide +kernel) (by decide +kernel)
theorem v_004 : Fp.Fin c004 ∧ vl c004 = 4611686018427388 / 1152921504606846976 := vl_const (s := false) (m := 4611686018427388) (k := 60) (by decide +kernel) (by decide +kernel)
theorem v_2000 : Fp.Fin c2000 ∧ vl c2000 = 2000 := vl_const (s := false) (m := 8796093022208000) (k := 42) (by decide +kernel) (by decide +kernel)
theorem v_5e5 : Fp.Fin c5e5 ∧ vl c5e5 = 500000 := vl_const (s := false) (m := 8589934592000000) (k := 34) (by decide +kernel) (by decide +kernel)
theorem eq_of_can {x c : Nat} (hc : Fp.Fin c) (h : can x = c) : x = c := can_num' h (by
  obtain ⟨s, m, i, hr⟩ := hc
  unfold isNan
  rw [hr]; rfl)
set_option maxHeartbeats 4000000 in
theorem apart_c (p q : Int) (w : World) : Calls Tryd.prog 16 #[.int .i64 p, .int .i64 q] w (ExR (.int .i64 (if apartP p q < 0 then -apartP p q else apartP p q)) w) := by
  obtain ⟨p0, p1⟩ := norm_range p
  obtain ⟨q0, q1⟩ := norm_range q
  have HA : Hid (signP (normP p - normP q) = apartP p q) := Lib.hid rfl
  have HN := Lib.hid (fun w => normOf_c p w)
  have HM := Lib.hid (fun w => normOf_c q w)
  have HS := Lib.hid (signedAngle_c (normP p - normP q))
  rw [HA.out] at HS
  have hr : -360000000000 ≤ apartP p q ∧ apartP p q ≤ 360000000000 := by
    unfold apartP signP
    have := norm_range (normP p - normP q)
    split <;> omega
  clear HA
  generalize apartP p q = d at *
  generalize normP p = x at *
  generalize normP q = y at *
  obtain ⟨r0, r1⟩ := hr
  have tk : Hid True := trivial
  by_cases hd : d < 0
  · rw [if_pos hd]
    go_enter Tryd.func16, Tryd.ntmps16
    go_wp2_with (first
      | (go_at_call 21; clear tk; go_must (refine (HN.out _).mono ?_; rintro e w1 ⟨rfl, rfl⟩))
      | (go_at_call 21; go_must (refine (HM.out _).mono ?_; rintro e w1 ⟨rfl, rfl⟩))
      | (go_at_call 56; go_must (refine (HS.out _).mono ?_; rintro e w2 ⟨rfl, hx⟩)))
    go_ret
    exact ⟨rfl, hx⟩
  · rw [if_neg hd]
    go_enter Tryd.func16, Tryd.ntmps16
    go_wp2_with (first
      | (go_at_call 21; clear tk; go_must (refine (HN.out _).mono ?_; rintro e w1 ⟨rfl, rfl⟩))
      | (go_at_call 21; go_must (refine (HM.out _).mono ?_; rintro e w1 ⟨rfl, rfl⟩))
      | (go_at_call 56; go_must (refine (HS.out _).mono ?_; rintro e w2 ⟨rfl, hx⟩)))
    go_ret
    exact ⟨rfl, hx⟩
theorem cosLat_c (a : Int) (w : World) : Calls Tryd.prog 27 #[.int .i64 a] w (ExR (.float .f64 (cosP a)) w) := by
  go_enter Tryd.func27, Tryd.ntmps27
  go_wp2_with (first
    | (go_at_call 18; go_must (refine (sincos_c _ _).mono ?_; rintro e w1 ⟨rfl, rfl⟩)))
  go_ret
  exact ⟨rfl, Ext.refl _⟩
/-- a globe of which the document says how good it is -/
def mildB (a f : Nat) : Bool := fge a c1e6 && fle a c1e7 && fge f 0 && fle f c01
set_option maxHeartbeats 4000000 in
theorem mild_c (a f : Nat) (w : World) : Calls Tryd.prog 25 #[globeV a f] w (ExR (.bool (mildB a f)) w) := by
  unfold mildB
  cases b1 : fge a c1e6 with
  | false =>
    have G1 : (FloatKind.f64.format.order a c1e6 == some .gt || FloatKind.f64.format.order a c1e6 == some .eq) = false := b1
    clear b1
    simp only [Bool.false_and]
    go_enter Tryd.func25, Tryd.ntmps25
    go_wp2_with fail
    all_goals go_ret
    all_goals exact ⟨rfl, by repeat (first | exact Ext.refl _ | refine Ext.alloc ?_ _)⟩
  | true =>
  have G1 : (FloatKind.f64.format.order a c1e6 == some .gt || FloatKind.f64.format.order a c1e6 == some .eq) = true := b1
  clear b1
  cases b2 : fle a c1e7 with
  | false =>
    have G2 : (FloatKind.f64.format.order a c1e7 == some .lt || FloatKind.f64.format.order a c1e7 == some .eq) = false := b2
    clear b2
    simp only [Bool.false_and, Bool.true_and]
    go_enter Tryd.func25, Tryd.ntmps25
    go_wp2_with fail
    all_goals go_ret
    all_goals exact ⟨rfl, by repeat (first | exact Ext.refl _ | refine Ext.alloc ?_ _)⟩
  | true =>
  have G2 : (FloatKind.f64.format.order a c1e7 == some .lt || FloatKind.f64.format.order a c1e7 == some .eq) = true := b2
  clear b2
  cases b3 : fge f 0 with
  | false =>
    have G3 : (FloatKind.f64.format.order f 0 == some .gt || FloatKind.f64.format.order f 0 == some .eq) = false := b3
    clear b3
    simp only [Bool.false_and, Bool.true_and]
    go_enter Tryd.func25, Tryd.ntmps25
    go_wp2_with fail
    all_goals go_ret
    all_goals exact ⟨rfl, by repeat (first | exact Ext.refl _ | refine Ext.alloc ?_ _)⟩
  | true =>
  have G3 : (FloatKind.f64.format.order f 0 == some .gt || FloatKind.f64.format.order f 0 == some .eq) = true := b3
  clear b3
  cases b4 : fle f c01 with
  | false =>
    have G4 : (FloatKind.f64.format.order f c01 == some .lt || FloatKind.f64.format.order f c01 == some .eq) = false := b4
    clear b4
    simp only [Bool.true_and]
    go_enter Tryd.func25, Tryd.ntmps25
    go_wp2_with fail
    all_goals go_ret
    all_goals exact ⟨rfl, by repeat (first | exact Ext.refl _ | refine Ext.alloc ?_ _)⟩
  | true =>
    have G4 : (FloatKind.f64.format.order f c01 == some .lt || FloatKind.f64.format.order f c01 == some .eq) = true := b4
    clear b4
    simp only [Bool.true_and]
    go_enter Tryd.func25, Tryd.ntmps25
    go_wp2_with fail
    all_goals go_ret
    all_goals exact ⟨rfl, by repeat (first | exact Ext.refl _ | refine Ext.alloc ?_ _)⟩
theorem snd_wave {a f : Nat} (hm : mildB a f = true) : Snd a f 0 := by
  unfold mildB at hm
  simp only [Bool.and_eq_true] at hm
  obtain ⟨⟨⟨b1, b2⟩, b3⟩, b4⟩ := hm
  obtain ⟨x1, x2, x3⟩ := btw_vl v_1e6.1 v_1e7.1 b1 b2
  obtain ⟨y1, y2, y3⟩ := btw_vl v_0.1 v_01.1 b3 b4
  rw [v_1e6.2] at x2
  rw [v_1e7.2] at x3
  rw [v_0.2] at y2
  rw [v_01.2] at y3
  have v0 : Fp.Fin 0 ∧ vl 0 = 0 := v_0
  exact ⟨x1, x2, x3, y1, y2, by grind, v0.1, by rw [v0.2]; grind, by rw [v0.2]; grind⟩
theorem scale_of {g : Bool} {sc : Nat} (h : strP g sc = 0) : Fp.Fin sc ∧ 99 / 1000 ≤ vl sc ∧ vl sc ≤ 10 := by
  have hb := (strP_ok h).2
  have w1 : Fp.Fin 4591870180066957722 ∧ vl 4591870180066957722 = 7205759403792794 / 72057594037927936 := vl_const (s := false) (m := 7205759403792794) (k := 56) (by decide +kernel) (by decide +kernel)
  have w2 : Fp.Fin 4621819117588971520 ∧ vl 4621819117588971520 = 10 := vl_const (s := false) (m := 5629499534213120) (k := 49) (by decide +kernel) (by decide +kernel)
  unfold btw at hb
  rw [Bool.and_eq_true] at hb
  obtain ⟨z1, z2, z3⟩ := btw_vl w1.1 w2.1 hb.1 hb.2
  rw [w1.2] at z2
  rw [w2.2] at z3
  exact ⟨z1, by grind, z3⟩
theorem off_of {mid lon D0 : Int} (h : ¬ D0 < (if apartP lon mid < 0 then -apartP lon mid else apartP lon mid)) : -D0 ≤ signP (dS mid lon) ∧ signP (dS mid lon) ≤ D0 := by
  have e : apartP lon mid = signP (dS mid lon) := rfl
  rw [e] at h
  generalize signP (dS mid lon) = z at *
  split at h <;> omega
theorem asked_mid {a f sc : Nat} {mid lon lat : Int} (hm : mildB a f = true) (hk : strP (okG a f) sc = 0) (l1 : -84000000000 ≤ lat) (l2 : lat ≤ 84000000000) (ho : ¬ 30000000000 < (if apartP lon mid < 0 then -apartP lon mid else apartP lon mid)) :
    Asked a f sc 0 mid lon lat 30000000000 499950 (5026 / 1000000) (30001 / 10000) (154 / 10000) (5 / 1000000) (2 / 1000) (98 / 1000) (132 / 1000) (1 / 100000000) (26 / 10000) (6 / 10000000) (5 / 1000000000) (3 / 100000000000) (1 / 1000000) (3 / 10000000) 0 (5000001 / 10000000) (8660254 / 10000000) (5773506 / 10000000) (11547008 / 10000000) (300001 / 100000) (22 / 100000000) 13300 := by
  have g := snd_wave hm
  obtain ⟨s0, s1, s2⟩ := scale_of hk
  obtain ⟨t1, t2⟩ := off_of ho
  obtain ⟨n0, n1, _⟩ := nQ_bd g.f1 g.f2
  have e1 : ((499950 : Int) : Rat) = 499950 := rfl
  exact ⟨reg_mid, g, ⟨by grind, n1⟩, s0, s1, s2, l1, l2, t1, t2, by decide, S_30.1, S_30.2, by grind, by grind, by grind, by grind, by grind, by grind, by grind, by grind, by grind, by grind, by grind, by grind, by grind, by grind, by grind, by grind, by grind, by grind, by grind, by decide, by decide, by rw [e1]; have := rho_lo; grind, by have := rho_lo; grind⟩
theorem asked_small {a f sc : Nat} {mid lon lat : Int} (hm : mildB a f = true) (hk : strP (okG a f) sc = 0) (l1 : -84000000000 ≤ lat) (l2 : lat ≤ 84000000000) (hf : fle f c004 = true) (ho : ¬ 6000000000 < (if apartP lon mid < 0 then -apartP lon mid else apartP lon mid)) :
    Asked a f sc 0 mid lon lat 6000000000 1950 (2005 / 1000000) (12336 / 10000) (26 / 10000) (26 / 1000000000) (56 / 1000000) (16 / 1000) (22 / 1000) (2 / 100000000000) (11 / 10000) (9 / 100000000) (3 / 10000000000) (1 / 1000000000000) (1 / 1000000000) (3 / 10000000000) 0 (10452847 / 100000000) (99452189 / 100000000) (105105 / 1000000) (100551 / 100000) (12335 / 10000) (4 / 10000000000) 620 := by
  have g := snd_wave hm
  obtain ⟨s0, s1, s2⟩ := scale_of hk
  obtain ⟨t1, t2⟩ := off_of ho
  obtain ⟨n0, n1, n2⟩ := nQ_bd g.f1 g.f2
  have f4 := (fle_vl g.ff v_004.1).1 hf
  rw [v_004.2] at f4
  have n3 := n2 (by grind)
  have e1 : ((1950 : Int) : Rat) = 1950 := rfl
  exact ⟨reg_small, g, ⟨by grind, n3⟩, s0, s1, s2, l1, l2, t1, t2, by decide, S_6.1, S_6.2, by grind, by grind, by grind, by grind, by grind, by grind, by grind, by grind, by grind, by grind, by grind, by grind, by grind, by grind, by grind, by grind, by grind, by grind, by grind, by decide, by decide, by rw [e1]; have := rho_lo; grind, by have := rho_lo; grind⟩
/-- all that the walk is told -/
structure ToldW (a f : Nat) (mid : Int) (sc : Nat) (lon lat : Int) (X Y : Nat) (lo la n1 n2 : Int) (most : Nat) : Prop where
  too : ∀ w, Calls Tryd.prog 20 #[stripV a f mid sc, placeU lon lat] w (ExR (.tuple #[flatU X Y, .nilIface]) w)
  frm : ∀ w, Calls Tryd.prog 26 #[stripV a f mid sc, flatU X Y] w (ExR (.tuple #[placeU lo la, .nilIface]) w)
  ala : ∀ w, Calls Tryd.prog 16 #[.int .i64 la, .int .i64 lat] w (ExR (.int .i64 n1) w)
  alo : ∀ w, Calls Tryd.prog 16 #[.int .i64 lo, .int .i64 lon] w (ExR (.int .i64 n2) w)
  cos : ∀ w, Calls Tryd.prog 27 #[.int .i64 lat] w (ExR (.float .f64 (cosP lat)) w)
  same : la = lo → lat = lon → n1 = n2
  m1 : (FloatKind.f64.format.order (floatOfInt .f64 n1) most == some .lt || FloatKind.f64.format.order (floatOfInt .f64 n1) most == some .eq) = true
  m2 : ∀ r, can r = fmul (can (floatOfInt .f64 n2)) (can (cosP lat)) → (FloatKind.f64.format.order r most == some .lt || FloatKind.f64.format.order r most == some .eq) = true
theorem told_wave {a f sc high : Nat} {mid lon lat D0 G : Int} {N Kp q B2 B1 B3 B4 m d1 d2 d3 d4 em M S0 C0 x0 r0 K W B : Rat} (h : Asked a f sc high mid lon lat D0 G N Kp q B2 B1 B3 B4 m d1 d2 d3 d4 em M 0 S0 C0 x0 r0 K W B) (hk : strP (okG a f) sc = 0) {most : Nat} (fm : Fp.Fin most) (hm1 : ((G : Rat) + 50) ≤ vl most) (hB0 : 0 ≤ B) (hm2 : B + 1 ≤ vl most) (hm3 : vl most ≤ 1000000) :
    ∃ X Y lo la n1 n2, ToldW a f mid sc lon lat X Y lo la n1 n2 most := by
  have u1 : uu = 1 / 9007199254740992 := uu_eq
  obtain ⟨fX, fY⟩ := h.fin
  have R0 := (rS_near h.g h.fsc h.s1 h.s2).2.1
  obtain ⟨hi, hlat, hlon⟩ := h.back fX fY (by constructor <;> grind) (by constructor <;> grind)
  obtain ⟨rr, hrr⟩ := lat_some (isoP f) (fT a f sc (stripX a f sc (uS f lat (dS mid lon)) (vS f lat (dS mid lon))) (stripY a f sc (uS f lat (dS mid lon)) (vS f lat (dS mid lon)))) _ (-89000000000) 89000000001 (Nat.le_refl _)
  obtain ⟨b1, b2⟩ := hlat rr hrr
  have l1 := h.l1
  have l2 := h.l2
  have t1 := h.t1
  have t2 := h.t2
  have hD := h.hD
  have hl : lookK 0 lat (signP (dS mid lon)) = 0 := by
    unfold lookK
    rw [if_neg (by omega), if_neg (by omega)]
  obtain ⟨fc, c0, c1, _⟩ := cos_84 (m := lat) (by omega) (by omega)
  have G1 := h.G1
  have G0 := h.G0
  generalize hX : stripX a f sc (uS f lat (dS mid lon)) (vS f lat (dS mid lon)) = X at *
  generalize hY : stripY a f sc (uS f lat (dS mid lon)) (vS f lat (dS mid lon)) = Y at *
  have e1 : apartP rr lat = rr - lat := by
    unfold apartP signP normP
    split <;> omega
  have r2 : ∀ z : Int, -180000000000 ≤ z → z ≤ 180000000000 → 0 ≤ (if z < 0 then -z else z) ∧ (if z < 0 then -z else z) ≤ 180000000000 := by intro z h1 h2; split <;> omega
  have r3 := r2 (apartP (fLon a f sc mid X Y) lon) (by unfold apartP; exact (signP_range _).1) (by unfold apartP; exact (signP_range _).2)
  have n1b : 0 ≤ (if apartP rr lat < 0 then -apartP rr lat else apartP rr lat) ∧ (if apartP rr lat < 0 then -apartP rr lat else apartP rr lat) ≤ G + 50 := by rw [e1]; split <;> omega
  refine ⟨X, Y, fLon a f sc mid X Y, rr, _, _, ⟨?_, ?_, apart_c _ _, apart_c _ _, cosLat_c lat, fun h1 h2 => by rw [h1, h2], ?_, ?_⟩⟩
  · intro w
    refine (sto_ok0 (A := fun _ => ⟨0, 0, none⟩) a f mid sc lon lat w ⟨⟩ hk hl).mono ?_
    rintro e w' ⟨x, y, rfl, hx, hy, hw⟩
    rw [hX] at hx
    rw [hY] at hy
    obtain rfl := eq_of_can fX hx
    obtain rfl := eq_of_can fY hy
    exact ⟨rfl, hw⟩
  · intro w
    exact sfrom_ok0 (A := fun _ => ⟨0, 0, none⟩) a f mid sc X Y rr w ⟨⟩ hk hi hrr
  · generalize (if apartP rr lat < 0 then -apartP rr lat else apartP rr lat) = n at *
    obtain ⟨fi, ei⟩ := vl_int n (by omega)
    have := (fle_vl fi fm).2 (by
      rw [ei]
      have t := castle n1b.2
      push_cast at t
      grind)
    exact this
  · generalize (if apartP (fLon a f sc mid X Y) lon < 0 then -apartP (fLon a f sc mid X Y) lon else apartP (fLon a f sc mid X Y) lon) = n at *
    intro r hr
    obtain ⟨fi, ei⟩ := vl_int n (by omega)
    rw [fi.can, fc.can] at hr
    have t0 := castle r3.1
    have e0 : ((0 : Int) : Rat) = 0 := rfl
    rw [e0] at t0
    have nk := Rat.mul_nonneg t0 (show 0 ≤ vl (cosP lat) by grind)
    obtain ⟨f2, e2⟩ := mulE fi fc B (by rw [ei]; exact ⟨by grind, hlon⟩) (by grind)
    obtain rfl := eq_of_can f2 hr
    have := (fle_vl f2 fm).2 (by
      rw [ei] at e2
      obtain ⟨_, e3⟩ := e2
      rw [u1] at e3
      grind)
    exact this
end Go.Proofs.YtddjppaccpioiaaDoor
