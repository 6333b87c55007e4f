/- Walk: how much longer and turned things are on a strip, the reference's. -/
import Derived.Test.YtmmifmlkhmdgaaaGreatDoorU8
import Derived.Test.YtmmifmlkhmdgaaaGreatDoorZD
namespace Go.Proofs.YtmmifmlkhmdgaaaGreatDoor
open Go.RowKit Go.Fp Go.Rel
set_option maxRecDepth 20000

theorem bis_in (p : Int → Bool) : ∀ (n : Nat) (lo hi : Int), lo ≤ hi → lo ≤ bis p n lo hi ∧ bis p n lo hi ≤ hi
  | 0, lo, hi, h => ⟨Int.le_refl _, h⟩
  | n + 1, lo, hi, h => by
    unfold bis
    split
    · split
      · have := bis_in p n ((lo + hi) / 2) hi (by omega); omega
      · have := bis_in p n lo ((lo + hi) / 2) (by omega); omega
    · omega
theorem quad_in (u w : Nat) : 0 ≤ quad u w ∧ quad u w ≤ 90000000001 := by
  unfold quad bisect
  exact bis_in _ _ _ _ (by decide)
theorem angle_in (y x : Nat) : 0 ≤ (angleP y x).1 ∧ (angleP y x).1 ≤ 360000000000 := by
  have hq := quad_in (absW x) (absW y)
  have hn := norm_range (360000000000 - quad (absW x) (absW y))
  unfold angleP
  split
  · simp
  · simp only []
    split
    · simp only []; omega
    · split
      · simp only []; omega
      · split
        · simp only []; omega
        · simp only []; omega

/-- a place of the series of the turn -/
def tRe (T : Nat → List Nat) (c f : Nat) (u : Int) (V : Nat) : Nat → Nat
  | 0 => w1S
  | k + 1 => fadd (tRe T c f u V k) (fmul (fmul (can (floatOfInt .f64 (2 * ((k : Int) + 1)))) (rowS T c f k)) (cosRe (2 * ((k : Int) + 1) * u) (fmul (can (floatOfInt .f64 (2 * ((k : Int) + 1)))) V)))
def tIm (T : Nat → List Nat) (c f : Nat) (u : Int) (V : Nat) : Nat → Nat
  | 0 => 0
  | k + 1 => fadd (tIm T c f u V k) (fmul (fmul (can (floatOfInt .f64 (2 * ((k : Int) + 1)))) (rowS T c f k)) (cosIm (2 * ((k : Int) + 1) * u) (fmul (can (floatOfInt .f64 (2 * ((k : Int) + 1)))) V)))
/-- how much longer, and turned -/
def turnM (a f sc : Nat) (lat d u : Int) (T V : Nat) : Nat :=
  fdiv (fmul (fmul (radS a f) (can sc)) (fsqrt (fadd (fmul (tRe tabA cA4 f u V 4) (tRe tabA cA4 f u V 4)) (fmul (tIm tabA cA4 f u V 4) (tIm tabA cA4 f u V 4)))))
    (fmul (fmul (crossP a f lat) (can (cosP lat))) (fsqrt (fadd (fmul T T) (fmul (can (cosP d)) (can (cosP d))))))
def turnA (f : Nat) (d u : Int) (T V : Nat) : Int :=
  signP ((angleP (fmul T (can (sinP d))) (fmul (fsqrt (fadd (can w1S) (fmul T T))) (can (cosP d)))).1 - (angleP (tIm tabA cA4 f u V 4) (tRe tabA cA4 f u V 4)).1)
theorem ang_wrap (y x y' x' : Nat) : IntKind.i64.wrap ((angleP y x).1 - (angleP y' x').1) = (angleP y x).1 - (angleP y' x').1 :=
  IntWalk.i64_in _ ⟨by have := angle_in y x; have := angle_in y' x'; omega, by have := angle_in y x; have := angle_in y' x'; omega⟩
def SpSqrt (args : Array Value) (v : Value) : Prop := ∃ x : Nat, args = #[.float .f64 x] ∧ isFl (fsqrt (can x)) v
theorem spSqrt_iff (x : Nat) (v : Value) : SpSqrt #[.float .f64 x] v ↔ isFl (fsqrt (can x)) v := by
  unfold SpSqrt
  exact ⟨fun ⟨_, h, k⟩ => by simp at h; obtain rfl := h; exact k, fun h => ⟨_, rfl, h⟩⟩
def SpAng1 (args : Array Value) (v : Value) : Prop := ∃ y x : Nat, args = #[.float .f64 y, .float .f64 x] ∧ v = .int .i64 (angleP (can y) (can x)).1
theorem spAng1_iff (y x : Nat) (v : Value) : SpAng1 #[.float .f64 y, .float .f64 x] v ↔ v = .int .i64 (angleP (can y) (can x)).1 := by
  unfold SpAng1
  exact ⟨fun ⟨_, _, h, k⟩ => by simp at h; obtain ⟨rfl, rfl⟩ := h; exact k, fun h => ⟨_, _, rfl, h⟩⟩
set_option maxHeartbeats 16000000 in
theorem turnedOf_c (a f : Nat) (mid : Int) (sc : Nat) (lon lat : Int) (t : Nat) (d u : Int) (v : Nat) (w : World) (hg : okG a f = true) (u1 : -180000000000 ≤ u) (u2 : u ≤ 180000000000) :
    Calls Tryz.prog 17 #[stripV a f mid sc, placeU lon lat, wideV t d u v] w (fun e w' => ∃ m, e = .returned (.tuple #[.float .f64 m, .int .i64 (turnA f d u (can t) (can v))]) ∧ can m = turnM a f sc lat d u (can t) (can v) ∧ Ext w w') := by
  have HN := Lib.hid (fun w => numbersOf_c a f w hg)
  clear hg
  go_enter Tryz.func17, Tryz.ntmps17
  go_wp2_with (first
    | (go_at_call 33; go_must (refine (HN.out _).mono ?_; rintro e w1 ⟨r', ga, ca, gb, cb, y0, y1, y2, y3, z0, z1, z2, z3, rfl, hr', hA', hB', hfa, hfb, hx⟩; obtain ⟨hb1, hb2, hb3, hw⟩ := ext3 hx; have sz3 := hb3.lt; have hga := hfa.lt; have HR := Lib.hid hr'; have HA := Lib.hid hA'; clear hx hr' hA' hB' hfb; have k1 : ∀ o i, (w1.alloc o).cell? ⟨w.heap.size + 1 + 1, i, none⟩ = #[Value.float .f64 t, Value.int .i64 d, Value.int .i64 u, Value.float .f64 v][i]? := (fun o i => (hb3.ext ((Ext.refl w1).alloc o)).cell i); have k2 : ∀ o n i, ((w1.alloc o).drewN n).cell? ⟨w.heap.size + 1 + 1, i, none⟩ = #[Value.float .f64 t, Value.int .i64 d, Value.int .i64 u, Value.float .f64 v][i]? := (fun o n i => (hb3.ext (((Ext.refl w1).alloc o).drewN n)).cell i)))
    | (with_reducible refine upon_fl rfl ?_; intro r n hr))
  obtain ⟨wk, hwk⟩ : ∃ wk, wk = (((w1.alloc (.cells #[.float .f64 r', .slice (some ⟨ga, 0, none⟩) 4 ca, .slice (some ⟨gb, 0, none⟩) 4 cb] 78)).alloc (.cells #[.float .f64 4607182418800017408, .float .f64 0] 82))) := ⟨_, rfl⟩
  rw [← hwk]
  have e3 : Ext ((w1.alloc (.cells #[.float .f64 r', .slice (some ⟨ga, 0, none⟩) 4 ca, .slice (some ⟨gb, 0, none⟩) 4 cb] 78)).alloc (.cells #[.float .f64 4607182418800017408, .float .f64 0] 82)) wk := by rw [hwk]; exact Ext.refl _
  obtain ⟨hbN, hbZ, e1⟩ := ext2 e3
  replace hw := hw.trans e1
  replace hb1 := hb1.ext e1
  replace hb2 := hb2.ext e1
  replace hb3 := hb3.ext e1
  replace hfa := hfa.ext e1
  clear hwk e3 e1 k1 k2
  go_loopw [10] (fun iv wr => ∃ (k x y : Nat), iv = .int .i64 ((k : Int) + 1) ∧ k ≤ 4 ∧ can x = tRe tabA cA4 f u (can v) k ∧ can y = tIm tabA cA4 f u (can v) k ∧ Ext w wr ∧ Blk wr w.heap.size 26 #[.float .f64 a, .float .f64 f, .int .i64 mid, .float .f64 sc] ∧ Blk wr (w.heap.size + 1) 31 #[.int .i64 lon, .int .i64 lat] ∧ Blk wr (w.heap.size + 1 + 1) 51 #[.float .f64 t, .int .i64 d, .int .i64 u, .float .f64 v] ∧ Blk wr w1.heap.size 78 #[.float .f64 r', .slice (some ⟨ga, 0, none⟩) 4 ca, .slice (some ⟨gb, 0, none⟩) 4 cb] ∧ Fl4 wr ga y0 y1 y2 y3 ∧ Blk wr (w1.heap.size + 1) 82 #[.float .f64 x, .float .f64 y]) (fun iv _ => 5 - (RowKit.intOf iv).toNat)
  case atStart => exact ⟨0, _, _, rfl, by omega, (show can w1S = w1S from can_of_not (by decide +kernel)), can0, hw, hb1, hb2, hb3, hbN, hfa, hbZ⟩
  case round =>
    clear hw hb1 hb2 hb3 hbN hfa hbZ
    obtain ⟨k, x, y, rfl, hk, hx, hy, hw, hb1, hb2, hb3, hbN, hfa, hbZ⟩ := hrel
    have HX := Lib.hid hx
    have HY := Lib.hid hy
    clear hx hy
    have c1 := hb1.cell
    have c3 := hb3.cell
    have hlt' : Hid True := trivial
    rcases Nat.lt_or_ge k 4 with hlt | hge
    · obtain ⟨m1, m2⟩ := mul_range k hlt u u1 u2
      obtain ⟨J, hJ⟩ : ∃ J : Int, J = (k : Int) + 1 := ⟨_, rfl⟩
      obtain ⟨J2, hJ2⟩ : ∃ J2 : Int, J2 = 2 * J := ⟨_, rfl⟩
      obtain ⟨M, hM⟩ : ∃ M : Int, M = J2 * u := ⟨_, rfl⟩
      have WA : IntKind.i64.wrap (J + 1) = J + 1 := IntWalk.i64_in _ ⟨by omega, by omega⟩
      have WB : IntKind.i64.wrap (2 * J) = J2 := by rw [hJ2]; exact IntWalk.i64_in _ ⟨by omega, by omega⟩
      have hM2 : M = 2 * ((k : Int) + 1) * u := by rw [hM, hJ2, hJ]
      have WC : IntKind.i64.wrap (J2 * u) = M := by rw [← hM]; exact IntWalk.i64_in _ ⟨by rw [hM2]; omega, by rw [hM2]; omega⟩
      have K1 : (k : Int) < 4 := by omega
      have K2 : J ≤ 4 := by omega
      have WD : IntKind.i64.wrap (J - 1) = (k : Int) := by rw [hJ]; rw [IntWalk.i64_in _ ⟨by omega, by omega⟩]; omega
      obtain ⟨ua, hua, FA⟩ := fl4_pick (g := ga) HA.out k hlt
      rw [← hJ]
      have HM := Lib.hid hM2
      have HJ0 := Lib.hid hJ
      have HJ : Hid (J2 = 2 * ((k : Int) + 1)) := Lib.hid (by rw [hJ2, hJ])
      clear hM hM2 hJ hJ2 m1 m2
      go_wp2_with (first
        | (go_at_call 36; go_must (refine (sineOf_c _ _ _).mono ?_; rintro e w2 ⟨pa, pb, pc, pd, rfl, hpa, hpb, hpc, hpd, hx⟩; have hx' : Ext wr w2 := bareN hx rfl rfl rfl rfl; have e2 := (((hx'.alloc (.cells #[.float .f64 pa, .float .f64 pb] 82)).alloc (.cells #[.float .f64 pc, .float .f64 pd] 82))); obtain ⟨_, hbX, _⟩ := ext2 (Ext.refl ((w2.alloc (.cells #[.float .f64 pa, .float .f64 pb] 82)).alloc (.cells #[.float .f64 pc, .float .f64 pd] 82))); replace hw := hw.trans e2; replace hb1 := hb1.ext e2; replace hb2 := hb2.ext e2; replace hb3 := hb3.ext e2; replace hbN := hbN.ext e2; replace hfa := hfa.ext e2; replace hbZ := hbZ.ext e2; clear hx hx' c1 c3))
        | (with_reducible refine upon_fl rfl ?_; intro rv nv hrv))
      refine wp_region_head 11 (fun g args v => g = 37 ∧ SpPP args v) (by kernel_rfl) (by kernel_rfl) ?_
      simp only [List.take_succ_cons, List.take_zero, List.drop_succ_cons, List.drop_zero]
      repeat (first
        | (refine wpR_op rfl (fun w9 hw9 K hK => ?_); have k2 := (hbZ.ext (bareN hw9 rfl rfl rfl rfl)).cell; have k3 := (hbN.ext (bareN hw9 rfl rfl rfl rfl)).cell; have k4 := FA w9 (hfa.ext (bareN hw9 rfl rfl rfl rfl)); have k5 := (hbX.ext (bareN hw9 rfl rfl rfl rfl)).cell; go_simp; refine hK _ ?_; clear hK K k2 k3 k4 k5 hw9 w9)
        | (refine wpR_op rfl (fun w9 hw9 K hK => ?_); go_simp; refine rel_fl rfl ?_; intro ka hka; refine hK _ ?_; clear hK K hw9 w9)
        | (refine wpR_op rfl (fun w9 hw9 K hK => ?_); go_simp; refine rel_call (PairR.call (plusP_c _ _ _ _ _ _)) (fun v => ?_) (fun v hv => ?_); (simp [spPP_iff]); obtain ⟨zx, zy, rfl, hzx, hzy⟩ := hv; refine hK _ ?_; clear hK K hw9 w9))
      refine wpR_nil ?_
      intro w8 hx8 _
      replace hw := hw.trans (bareN hx8 rfl rfl rfl rfl)
      replace hb1 := hb1.ext (bareN hx8 rfl rfl rfl rfl)
      replace hb2 := hb2.ext (bareN hx8 rfl rfl rfl rfl)
      replace hb3 := hb3.ext (bareN hx8 rfl rfl rfl rfl)
      replace hbN := hbN.ext (bareN hx8 rfl rfl rfl rfl)
      replace hfa := hfa.ext (bareN hx8 rfl rfl rfl rfl)
      replace hbZ := hbZ.ext (bareN hx8 rfl rfl rfl rfl)
      clear hx8 hbX
      refine wpList_own rfl 82 _ _ rfl _ _ rfl rfl _ _ hbZ (by kernel_rfl) rfl (by simp [Value.oneCell']) ?_
      intro w7 bn en sn
      replace hw := en w hw (by omega)
      replace hb1 := hb1.same sn (by omega)
      replace hb2 := hb2.same sn (by omega)
      replace hb3 := hb3.same sn (by omega)
      replace hbN := hbN.same sn (by omega)
      replace hfa := hfa.block (sn ga (by omega))
      clear en sn hbZ
      go_wp2_with fail
      go_roundw
      case rel =>
        refine ⟨k + 1, zx, zy, by rw [HJ0.out]; simp, by omega, ?_, ?_, hw, hb1, hb2, hb3, hbN, hfa, bn⟩
        · rw [hzx, HX.out, hpc, hka, hrv, hua, HM.out, HJ.out]; rfl
        · rw [hzy, HY.out, hpd, hka, hrv, hua, HM.out, HJ.out]; rfl
      case measure =>
        have hj := HJ0.out
        simp [RowKit.intOf]; omega
    · have h4 : k = 4 := by omega
      subst h4
      clear c1 c3
      have cc := And.intro hb1.cell (And.intro hb2.cell (And.intro hb3.cell (And.intro hbN.cell hbZ.cell)))
      have tk1 : Hid True := trivial
      have tk2 : Hid True := trivial
      have tk3 : Hid True := trivial
      have tk4 : Hid True := trivial
      go_wp2_with (first
        | (go_at_call 40; clear tk1; go_must (refine (plus_c _ _ _ _).mono ?_; rintro e w3 ⟨pl, rfl, hpl, hx⟩; replace hw := hw.trans (bareN hx rfl rfl rfl rfl); replace hb1 := hb1.ext (bareN hx rfl rfl rfl rfl); replace hb2 := hb2.ext (bareN hx rfl rfl rfl rfl); replace hb3 := hb3.ext (bareN hx rfl rfl rfl rfl); replace hbN := hbN.ext (bareN hx rfl rfl rfl rfl); replace hbZ := hbZ.ext (bareN hx rfl rfl rfl rfl); clear hx cc; have cc := And.intro hb1.cell (And.intro hb2.cell (And.intro hb3.cell (And.intro hbN.cell hbZ.cell)))))
        | (go_at_call 40; go_must (refine (plus_c _ _ _ _).mono ?_; rintro e w3 ⟨pm, rfl, hpm, hx⟩; replace hw := hw.trans (bareN hx rfl rfl rfl rfl); replace hb1 := hb1.ext (bareN hx rfl rfl rfl rfl); replace hb2 := hb2.ext (bareN hx rfl rfl rfl rfl); replace hb3 := hb3.ext (bareN hx rfl rfl rfl rfl); replace hbN := hbN.ext (bareN hx rfl rfl rfl rfl); replace hbZ := hbZ.ext (bareN hx rfl rfl rfl rfl); clear hx cc; have cc := And.intro hb1.cell (And.intro hb2.cell (And.intro hb3.cell (And.intro hbN.cell hbZ.cell)))))
        | (go_at_call 28; clear tk2; go_must (refine (sqrt_c _ _).mono ?_; rintro e w4 ⟨sq, rfl, hsq, hx⟩; replace hw := hw.trans (bareN hx rfl rfl rfl rfl); replace hb1 := hb1.ext (bareN hx rfl rfl rfl rfl); replace hb2 := hb2.ext (bareN hx rfl rfl rfl rfl); replace hb3 := hb3.ext (bareN hx rfl rfl rfl rfl); replace hbN := hbN.ext (bareN hx rfl rfl rfl rfl); replace hbZ := hbZ.ext (bareN hx rfl rfl rfl rfl); clear hx cc; have cc := And.intro hb1.cell (And.intro hb2.cell (And.intro hb3.cell (And.intro hbN.cell hbZ.cell)))))
        | (go_at_call 28; go_must (refine (sqrt_c _ _).mono ?_; rintro e w4 ⟨sr, rfl, hsr, hx⟩; replace hw := hw.trans (bareN hx rfl rfl rfl rfl); replace hb1 := hb1.ext (bareN hx rfl rfl rfl rfl); replace hb2 := hb2.ext (bareN hx rfl rfl rfl rfl); replace hb3 := hb3.ext (bareN hx rfl rfl rfl rfl); replace hbN := hbN.ext (bareN hx rfl rfl rfl rfl); replace hbZ := hbZ.ext (bareN hx rfl rfl rfl rfl); clear hx cc; have cc := And.intro hb1.cell (And.intro hb2.cell (And.intro hb3.cell (And.intro hbN.cell hbZ.cell)))))
        | (go_at_call 39; go_must (refine (sincos_c _ _).mono ?_; rintro e w' ⟨rfl, rfl⟩))
        | (go_at_call 53; go_must (refine (crossOf_c a f lat _).mono ?_; rintro e w5 ⟨cr, rfl, hcr, hx⟩; replace hw := hw.trans (bareN hx rfl rfl rfl rfl); replace hb1 := hb1.ext (bareN hx rfl rfl rfl rfl); replace hb2 := hb2.ext (bareN hx rfl rfl rfl rfl); replace hb3 := hb3.ext (bareN hx rfl rfl rfl rfl); replace hbN := hbN.ext (bareN hx rfl rfl rfl rfl); replace hbZ := hbZ.ext (bareN hx rfl rfl rfl rfl); clear hx cc; have cc := And.intro hb1.cell (And.intro hb2.cell (And.intro hb3.cell (And.intro hbN.cell hbZ.cell)))))
        | (clear tk3; with_reducible refine upon_fl rfl ?_; intro zz nz hzz)
        | (clear tk4; with_reducible refine upon_fl rfl ?_; intro qq nq hqq)
        | (with_reducible refine upon_fl rfl ?_; intro r n hr))
      have tk5 : Hid True := trivial
      have tk6 : Hid True := trivial
      refine wp_region_all (fun g args v => (g = 28 ∧ SpSqrt args v) ∨ (g = 42 ∧ SpAng1 args v)) (by kernel_rfl) (by kernel_rfl) ?_
      repeat (first
        | (refine wpR_op rfl (fun w9 hw9 K hK => ?_); have k5 := (hb3.ext (bareN hw9 rfl rfl rfl rfl)).cell; go_simp; refine hK _ ?_; clear hK K k5 hw9 w9)
        | (refine wpR_op rfl (fun w9 hw9 K hK => ?_); clear tk5; go_simp; refine rel_fl rfl ?_; intro ra hra; refine hK _ ?_; clear hK K hw9 w9)
        | (refine wpR_op rfl (fun w9 hw9 K hK => ?_); clear tk6; go_simp; refine rel_fl rfl ?_; intro rb hrb; refine hK _ ?_; clear hK K hw9 w9)
        | (refine wpR_op rfl (fun w9 hw9 K hK => ?_); go_simp; refine rel_fl rfl ?_; intro rc hrc; refine hK _ ?_; clear hK K hw9 w9)
        | (refine wpR_op rfl (fun w9 hw9 K hK => ?_); go_simp; refine rel_call (FlR.call (sqrt_c _ _)) (fun v => ?_) (fun v hv => ?_); (simp [spSqrt_iff]); obtain ⟨rs, rfl, hrs⟩ := hv; refine hK _ ?_; clear hK K hw9 w9)
        | (refine wpR_op rfl (fun w9 hw9 K hK => ?_); go_simp; refine rel_call (ExR.call (refAngle_c _ _ _)) (fun v => ?_) (fun v hv => ?_); (simp [spAng1_iff]); subst hv; refine hK _ ?_; clear hK K hw9 w9))
      refine wpR_nil ?_
      intro w8 hx8 _
      replace hw := hw.trans (bareN hx8 rfl rfl rfl rfl)
      replace hbZ := hbZ.ext (bareN hx8 rfl rfl rfl rfl)
      clear hx8 hb1 hb2 hb3 hbN cc
      have cz := hbZ.cell
      have EA : (angleP (fbin BinOp.mul (can t) (can (sinP d))) (fbin BinOp.mul (fsqrt (fbin BinOp.add (can 4607182418800017408) (fbin BinOp.mul (can t) (can t)))) (can (cosP d)))).1 = (angleP (fmul (can t) (can (sinP d))) (fmul (fsqrt (fadd (can w1S) (fmul (can t) (can t)))) (can (cosP d)))).1 := rfl
      rw [EA]
      have EB : ∀ w, Calls Tryz.prog 42 #[.float .f64 y, .float .f64 x] w (ExR (.int .i64 (angleP (tIm tabA cA4 f u (can v) 4) (tRe tabA cA4 f u (can v) 4)).1) w) := fun w => by
        have := refAngle_c y x w
        rwa [HY.out, HX.out] at this
      have HEB := Lib.hid EB
      have WZ := ang_wrap (fmul (can t) (can (sinP d))) (fmul (fsqrt (fadd (can w1S) (fmul (can t) (can t)))) (can (cosP d))) (tIm tabA cA4 f u (can v) 4) (tRe tabA cA4 f u (can v) 4)
      have HS : Hid (turnA f d u (can t) (can v) = signP ((angleP (fmul (can t) (can (sinP d))) (fmul (fsqrt (fadd (can w1S) (fmul (can t) (can t)))) (can (cosP d)))).1 - (angleP (tIm tabA cA4 f u (can v) 4) (tRe tabA cA4 f u (can v) 4)).1)) := Lib.hid rfl
      clear EA EB
      generalize (angleP (fmul (can t) (can (sinP d))) (fmul (fsqrt (fadd (can w1S) (fmul (can t) (can t)))) (can (cosP d)))).1 = pa at *
      generalize (angleP (tIm tabA cA4 f u (can v) 4) (tRe tabA cA4 f u (can v) 4)).1 = pb at *
      go_wp2_with (first
        | (go_at_call 42; go_must (refine (HEB.out _).mono ?_; rintro e w5 ⟨rfl, hx⟩; replace hw := hw.trans (bareN hx rfl rfl rfl rfl); replace hbZ := hbZ.ext (bareN hx rfl rfl rfl rfl); clear hx cz; have cz := hbZ.cell))
        | (go_at_call 41; go_must (refine (signedAngle_c _ _).mono ?_; rintro e w5 ⟨rfl, hx⟩; replace hw := hw.trans (bareN hx rfl rfl rfl rfl); replace hbZ := hbZ.ext (bareN hx rfl rfl rfl rfl); clear hx cz; have cz := hbZ.cell)))
      rw [HS.out]
      have hX := HX.out
      have hY := HY.out
      have hR := HR.out
      refine bodyPost_ret (v := .tuple #[.float .f64 r, .int .i64 (signP (pa - pb))]) (by simp [results, Tryz.results17, go_sem]) rfl ⟨r, rfl, ?_, hw⟩
      simp only [*, fbin, turnM]
end Go.Proofs.YtmmifmlkhmdgaaaGreatDoor
