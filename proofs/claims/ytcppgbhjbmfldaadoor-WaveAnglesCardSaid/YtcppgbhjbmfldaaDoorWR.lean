/- Walk: how much longer and turned things are on a strip, with no error in sight. Printed by gen_waveangles.py. -/
import Derived.Test.YtcppgbhjbmfldaaDoorBC
import Derived.Test.YtcppgbhjbmfldaaDoorZX
namespace Go.Proofs.YtcppgbhjbmfldaaDoor
open Go.RowKit Go.Fp Go.Rel
set_option maxRecDepth 20000

def FTw (g : FuncId) (args : Array Value) (v : Value) : Prop := (g = 51 ∧ SpSine cosRe cosIm args v) ∨ (g = 49 ∧ SpTimes args v)
def SpAn2 (args : Array Value) (v : Value) : Prop := ∃ y x : Nat, args = #[.float .f64 y, .float .f64 x] ∧ v = .tuple #[.int .i64 (angleP (can y) (can x)).1, .bool (angleP (can y) (can x)).2]
theorem spAn2_iff (y x : Nat) (v : Value) : SpAn2 #[.float .f64 y, .float .f64 x] v ↔ v = .tuple #[.int .i64 (angleP (can y) (can x)).1, .bool (angleP (can y) (can x)).2] := by
  unfold SpAn2
  exact ⟨fun ⟨_, _, h, k⟩ => by simp at h; obtain ⟨rfl, rfl⟩ := h; exact k, fun h => ⟨_, _, rfl, h⟩⟩
theorem AnR.call2 {P : Program} {f : FuncId} {args : Array Value} {p : Int × Bool} {W : World} (h : Calls P f args W (AnR p W)) : Calls P f args W (fun e w' => ∃ u, e = .returned u ∧ u = .tuple #[.int .i64 p.1, .bool p.2] ∧ Ext W w') :=
  h.mono fun _ _ ⟨he, hx⟩ => ⟨_, he, rfl, hx⟩

set_option maxHeartbeats 8000000 in
theorem turn_ok0 {A : Nat → Addr} (a f : Nat) (mid : Int) (sc : Nat) (lon lat : Int) (w : World) (h8 : W0 A w) (hk : strP (okG a f) sc = 0) (hl : lookK 0 lat (signP (dS mid lon)) = 0) :
    Calls Tryd.prog 21 #[stripV a f mid sc, placeU lon lat] w (fun e w' => ∃ m, e = .returned (.tuple #[.float .f64 m, .int .i64 (turnA f (dS mid lon) (uS f lat (dS mid lon)) (tS f lat) (vS f lat (dS mid lon))), .nilIface]) ∧ can m = turnM a f sc lat (dS mid lon) (uS f lat (dS mid lon)) (tS f lat) (vS f lat (dS mid lon)) ∧ Ext w w') := by
  have HL := Lib.hid (fun w h8 => look_ok0 (A := A) a f mid sc lon lat w h8 hk hl)
  have HS := Lib.hid (fun w h8 => series_ok0 (A := A) a f w h8 (strP_ok hk).1)
  clear hk hl
  generalize dS mid lon = d at *
  have hu : -180000000000 ≤ uS f lat d ∧ uS f lat d ≤ 180000000000 := signP_range _
  generalize uS f lat d = u at *
  obtain ⟨u1, u2⟩ := hu
  generalize vS f lat d = V at *
  generalize tS f lat = T at *
  go_enter Tryd.func21, Tryd.ntmps21
  go_wp2_with (first
    | (go_at_call 47; go_must (refine (HL.out _ (h8.ext (by repeat (first | exact Ext.refl _ | refine Ext.alloc ?_ _)))).mono ?_; rintro e w1 ⟨t, v, rfl, ht, hv, hx⟩; obtain ⟨hb1, hb2, hw⟩ := ext2 hx; have c1 := hb1.cell; have c2 := hb2.cell; have k1 : ∀ o i, (w1.alloc o).cell? ⟨w.heap.size, i, none⟩ = #[Value.float .f64 a, Value.float .f64 f, Value.int .i64 mid, Value.float .f64 sc][i]? := (fun o i => (hb1.ext ((Ext.refl w1).alloc o)).cell i); clear hx))
    | (go_at_call 48; go_must (refine (HS.out _ (h8.ext (hw.alloc _))).mono ?_; rintro e w2 ⟨r, y0, y1, y2, y3, x0, x1, x2, x3, rfl, hr, hA, _, hx⟩; obtain ⟨hbW, hx'⟩ := ext1 hx; replace hw := hw.trans hx'; replace hb1 := hb1.ext hx'; replace hb2 := hb2.ext hx'; clear hx hx' c1 c2 k1; have hA' := Lib.hid hA; clear hA; have c1 := hb1.cell; have cW := hbW.cell; have kW : ∀ o o' i, ((w2.alloc o).alloc o').cell? ⟨w1.heap.size, i, none⟩ = #[Value.float .f64 t, Value.int .i64 d, Value.int .i64 u, Value.float .f64 v][i]? := (fun o o' i => (hbW.ext (((Ext.refl w2).alloc o).alloc o')).cell i)))
)
  have hbA := (Blk.new w2 #[.float .f64 y0, .float .f64 y1, .float .f64 y2, .float .f64 y3] 88).ext ((Ext.refl _).alloc (.cells #[.float .f64 x0, .float .f64 x1, .float .f64 x2, .float .f64 x3] 88))
  have eA : Ext w2 ((w2.alloc (.cells #[.float .f64 y0, .float .f64 y1, .float .f64 y2, .float .f64 y3] 88)).alloc (.cells #[.float .f64 x0, .float .f64 x1, .float .f64 x2, .float .f64 x3] 88)) := ((Ext.refl w2).alloc _).alloc _
  replace hw := hw.trans eA
  replace hb1 := hb1.ext eA
  replace hb2 := hb2.ext eA
  replace hbW := hbW.ext eA
  clear c1 cW kW eA
  have HV := Lib.hid hv
  have HT := Lib.hid ht
  clear hv ht
  obtain ⟨CA, hCA⟩ : ∃ C : Array Value, C = #[.float .f64 y0, .float .f64 y1, .float .f64 y2, .float .f64 y3] := ⟨_, rfl⟩
  have HCA := Lib.hid hCA
  clear hCA
  go_loopw [12, 39] (fun zv iv wr => ∃ (k x y : Nat), zv = .complex .f64 x y ∧ iv = .int .i64 k ∧ k ≤ 4 ∧ can x = tRe tabA cA4 f u V k ∧ can y = tIm tabA cA4 f u V k ∧ Ext w wr ∧ Blk wr w.heap.size 56 #[.float .f64 a, .float .f64 f, .int .i64 mid, .float .f64 sc] ∧ Blk wr w1.heap.size 85 #[.float .f64 t, .int .i64 d, .int .i64 u, .float .f64 v] ∧ Blk wr w2.heap.size 88 CA ∧ Blk wr (w.heap.size + 1) 26 #[.int .i64 lon, .int .i64 lat]) (fun _ iv _ => 4 - (RowKit.intOf iv).toNat)
  case atStart => exact ⟨0, _, _, rfl, rfl, by omega, (show can w1S = w1S from can_of_not (by decide +kernel)), can0, hw, hb1, hbW, (by rw [HCA.out]; exact hbA), hb2⟩
  case round =>
    clear hw hb1 hb2 hbW hbA
    obtain ⟨k, x, y, rfl, rfl, hk, hx, hy, hw, hb1, hbW, hbA, hb2⟩ := hrel
    have HX := Lib.hid hx
    have HY := Lib.hid hy
    clear hx hy
    have tkX : Hid True := trivial
    rcases Nat.lt_or_ge k 4 with hlt | hge
    · obtain ⟨m1, m2⟩ := mul_range k hlt u u1 u2
      obtain ⟨J, hJ⟩ : ∃ J : Int, J = (k : Int) + 1 := ⟨_, rfl⟩
      obtain ⟨J2, hJ2⟩ : ∃ J2 : Int, J2 = 2 * J := ⟨_, rfl⟩
      obtain ⟨M, hM⟩ : ∃ M : Int, M = J2 * u := ⟨_, rfl⟩
      have WA : IntKind.i64.wrap ((k : Int) + 1) = J := by rw [hJ]; exact IntWalk.i64_in _ ⟨by omega, by omega⟩
      have WB : IntKind.i64.wrap (2 * J) = J2 := by rw [hJ2]; exact IntWalk.i64_in _ ⟨by omega, by omega⟩
      have hM2 : M = 2 * ((k : Int) + 1) * u := by rw [hM, hJ2, hJ]
      have WC : IntKind.i64.wrap (J2 * u) = M := by rw [← hM]; exact IntWalk.i64_in _ ⟨by rw [hM2]; omega, by rw [hM2]; omega⟩
      have K1 : (k : Int) < 4 := by omega
      obtain ⟨yk, EY, hyk⟩ := row_at hA'.out k hlt
      rw [← HCA.out] at EY
      have HM := Lib.hid hM2
      have HJ0 := Lib.hid hJ
      have HJ : Hid (J2 = 2 * ((k : Int) + 1)) := Lib.hid (by rw [hJ2, hJ])
      clear hM hM2 hJ hJ2 m1 m2
      go_wp2_with fail
      refine wp_region_all FTw (by kernel_rfl) (by kernel_rfl) ?_
      repeat (first
        | (refine wpR_op rfl (fun w9 hw9 K hK => ?_); have k2 := (hbW.ext (bareN hw9 rfl rfl rfl rfl)).cell; have k3 := (hbA.ext (bareN hw9 rfl rfl rfl rfl)).cell; go_simp; refine hK _ ?_; clear hK K k2 k3 hw9 w9)
        | (refine wpR_op rfl (fun w9 hw9 K hK => ?_); clear tkX; go_simp; refine rel_fl rfl ?_; intro ka hka; refine hK _ ?_; clear hK K hw9 w9)
        | (refine wpR_op rfl (fun w9 hw9 K hK => ?_); go_simp; refine rel_fl rfl ?_; intro fv hfv; refine hK _ ?_; clear hK K hw9 w9)
        | (refine wpR_op rfl (fun w9 hw9 K hK => ?_); go_simp; refine rel_call (CxR.call (cosine_c _ _ _)) (fun v => ?_) (fun v hv => ?_); (simp [FTw, spSine_iff]); obtain ⟨sx, sy, rfl, hsx, hsy⟩ := hv; refine hK _ ?_; clear hK K hw9 w9)
        | (refine wpR_op rfl (fun w9 hw9 K hK => ?_); go_simp; refine rel_call (CxR.call (times_c _ _ _ _)) (fun v => ?_) (fun v hv => ?_); (simp [FTw, spTimes_iff]); obtain ⟨tx, ty, rfl, htx, hty⟩ := hv; refine hK _ ?_; clear hK K hw9 w9)
        | (refine wpR_op rfl (fun w9 hw9 K hK => ?_); go_simp; refine rel_cx rfl ?_; intro zx zy hzx hzy; refine hK _ ?_; clear hK K hw9 w9))
      refine wpR_nil ?_
      intro w8 hx8 _
      replace hw := hw.trans (bareN hx8 rfl rfl rfl rfl)
      replace hb2 := hb2.ext (bareN hx8 rfl rfl rfl rfl)
      replace hbW := hbW.ext (bareN hx8 rfl rfl rfl rfl)
      replace hbA := hbA.ext (bareN hx8 rfl rfl rfl rfl)
      replace hb1 := hb1.ext (bareN hx8 rfl rfl rfl rfl)
      clear hx8
      go_wp2_with fail
      go_roundw
      case rel =>
        refine ⟨k + 1, zx, zy, rfl, by rw [HJ0.out]; simp, by omega, ?_, ?_, hw, hb1, hbW, hbA, hb2⟩
        · rw [hzx, HX.out, htx, hsx, hfv, hka, hyk, HM.out, HJ.out, HV.out]; rfl
        · rw [hzy, HY.out, hty, hsy, hfv, hka, hyk, HM.out, HJ.out, HV.out]; rfl
      case measure =>
        have hj := HJ0.out
        simp [RowKit.intOf]; omega
    · have h4 : k = 4 := by omega
      subst h4
      have cc := And.intro hb1.cell (And.intro hb2.cell hbW.cell)
      clear hbA HCA
      have hX := Lib.hid HX.out
      go_wp2_with (first
        | (go_at_call 35; go_must (refine (sqrt_c _ _).mono ?_; rintro e w4 ⟨sq, rfl, hsq, hx⟩; replace hw := hw.trans (bareN hx rfl rfl rfl rfl); replace hb1 := hb1.ext (bareN hx rfl rfl rfl rfl); replace hb2 := hb2.ext (bareN hx rfl rfl rfl rfl); replace hbW := hbW.ext (bareN hx rfl rfl rfl rfl); clear hx cc; have cc := And.intro hb1.cell (And.intro hb2.cell hbW.cell)))
        | (go_at_call 34; go_must (refine (cos_c _ _).mono ?_; rintro e w4 ⟨rfl, hx⟩; replace hw := hw.trans (bareN hx rfl rfl rfl rfl); replace hb1 := hb1.ext (bareN hx rfl rfl rfl rfl); replace hb2 := hb2.ext (bareN hx rfl rfl rfl rfl); replace hbW := hbW.ext (bareN hx rfl rfl rfl rfl); clear hx cc; have cc := And.intro hb1.cell (And.intro hb2.cell hbW.cell)))
        | (with_reducible refine upon_fl rfl ?_; intro r n hr))
      clear cc
      refine wp_region_all (fun g args v => (g = 52 ∧ isFl (crossP a f lat) v) ∨ (g = 34 ∧ v = .float .f64 (cosP lat))) (by kernel_rfl) (by kernel_rfl) ?_
      repeat (first
        | (refine wpR_op rfl (fun w9 hw9 K hK => ?_); have k5 := (hb1.ext (bareN hw9 rfl rfl rfl rfl)).cell; have k6 := (hb2.ext (bareN hw9 rfl rfl rfl rfl)).cell; have k7 := (hbW.ext (bareN hw9 rfl rfl rfl rfl)).cell; go_simp; refine hK _ ?_; clear hK K k5 k6 k7 hw9 w9)
        | (refine wpR_op rfl (fun w9 hw9 K hK => ?_); go_simp; refine rel_fl rfl ?_; intro nc hnc; refine hK _ ?_; clear hK K hw9 w9)
        | (refine wpR_op rfl (fun w9 hw9 K hK => ?_); go_simp; refine rel_call (FlR.call (cross_c a f lat _)) (fun v => ?_) (fun v hv => ?_); (simp); obtain ⟨cr, rfl, hcr⟩ := hv; refine hK _ ?_; clear hK K hw9 w9)
        | (refine wpR_op rfl (fun w9 hw9 K hK => ?_); go_simp; refine rel_call (ExR.call (cos_c lat _)) (fun v => ?_) (fun v hv => ?_); (simp); subst hv; refine hK _ ?_; clear hK K hw9 w9))
      refine wpR_nil ?_
      intro w8 hx8 _
      replace hw := hw.trans (bareN hx8 rfl rfl rfl rfl)
      replace hb1 := hb1.ext (bareN hx8 rfl rfl rfl rfl)
      replace hb2 := hb2.ext (bareN hx8 rfl rfl rfl rfl)
      replace hbW := hbW.ext (bareN hx8 rfl rfl rfl rfl)
      clear hx8
      have cc := And.intro hb1.cell (And.intro hb2.cell hbW.cell)
      go_wp2_with fail
      clear cc
      have tk1 : Hid True := trivial
      have tk2 : Hid True := trivial
      have tk3 : Hid True := trivial
      have tk4 : Hid True := trivial
      have tk5 : Hid True := trivial
      have tk6 : Hid True := trivial
      refine wp_region_all (fun g args v => (g = 35 ∧ SpSqrt args v)) (by kernel_rfl) (by kernel_rfl) ?_
      repeat (first
        | (refine wpR_op rfl (fun w9 hw9 K hK => ?_); have k5 := (hb1.ext (bareN hw9 rfl rfl rfl rfl)).cell; have k6 := (hb2.ext (bareN hw9 rfl rfl rfl rfl)).cell; have k7 := (hbW.ext (bareN hw9 rfl rfl rfl rfl)).cell; go_simp; refine hK _ ?_; clear hK K k5 k6 k7 hw9 w9)
        | (refine wpR_op rfl (fun w9 hw9 K hK => ?_); clear tk1; go_simp; refine rel_fl rfl ?_; intro m1 hm1; refine hK _ ?_; clear hK K hw9 w9)
        | (refine wpR_op rfl (fun w9 hw9 K hK => ?_); clear tk2; go_simp; refine rel_fl rfl ?_; intro m2 hm2; refine hK _ ?_; clear hK K hw9 w9)
        | (refine wpR_op rfl (fun w9 hw9 K hK => ?_); clear tk3; go_simp; refine rel_fl rfl ?_; intro m3 hm3; refine hK _ ?_; clear hK K hw9 w9)
        | (refine wpR_op rfl (fun w9 hw9 K hK => ?_); clear tk4; go_simp; refine rel_fl rfl ?_; intro m4 hm4; refine hK _ ?_; clear hK K hw9 w9)
        | (refine wpR_op rfl (fun w9 hw9 K hK => ?_); clear tk5; go_simp; refine rel_fl rfl ?_; intro m5 hm5; refine hK _ ?_; clear hK K hw9 w9)
        | (refine wpR_op rfl (fun w9 hw9 K hK => ?_); clear tk6; go_simp; refine rel_fl rfl ?_; intro m6 hm6; refine hK _ ?_; clear hK K hw9 w9)
        | (refine wpR_op rfl (fun w9 hw9 K hK => ?_); go_simp; refine rel_fl rfl ?_; intro m7 hm7; refine hK _ ?_; clear hK K hw9 w9)
        | (refine wpR_op rfl (fun w9 hw9 K hK => ?_); go_simp; refine rel_call (FlR.call (sqrt_c _ _)) (fun v => ?_) (fun v hv => ?_); (simp [spSqrt_iff]); obtain ⟨sb, rfl, hsb⟩ := hv; refine hK _ ?_; clear hK K hw9 w9))
      refine wpR_nil ?_
      intro w8 hx8 _
      replace hw := hw.trans (bareN hx8 rfl rfl rfl rfl)
      replace hb1 := hb1.ext (bareN hx8 rfl rfl rfl rfl)
      replace hb2 := hb2.ext (bareN hx8 rfl rfl rfl rfl)
      replace hbW := hbW.ext (bareN hx8 rfl rfl rfl rfl)
      clear hx8
      have cc := And.intro hb1.cell (And.intro hb2.cell hbW.cell)
      go_wp2_with fail
      clear cc
      have tk1 : Hid True := trivial
      have tk2 : Hid True := trivial
      have tk3 : Hid True := trivial
      refine wp_region_all (fun g args v => (g = 33 ∧ v = .float .f64 (sinP d)) ∨ (g = 35 ∧ SpSqrt args v) ∨ (g = 36 ∧ SpAn2 args v)) (by kernel_rfl) (by kernel_rfl) ?_
      repeat (first
        | (refine wpR_op rfl (fun w9 hw9 K hK => ?_); have k5 := (hb1.ext (bareN hw9 rfl rfl rfl rfl)).cell; have k6 := (hb2.ext (bareN hw9 rfl rfl rfl rfl)).cell; have k7 := (hbW.ext (bareN hw9 rfl rfl rfl rfl)).cell; go_simp; refine hK _ ?_; clear hK K k5 k6 k7 hw9 w9)
        | (refine wpR_op rfl (fun w9 hw9 K hK => ?_); clear tk1; go_simp; refine rel_fl rfl ?_; intro d1 hd1; refine hK _ ?_; clear hK K hw9 w9)
        | (refine wpR_op rfl (fun w9 hw9 K hK => ?_); clear tk2; go_simp; refine rel_fl rfl ?_; intro d2 hd2; refine hK _ ?_; clear hK K hw9 w9)
        | (refine wpR_op rfl (fun w9 hw9 K hK => ?_); clear tk3; go_simp; refine rel_fl rfl ?_; intro d3 hd3; refine hK _ ?_; clear hK K hw9 w9)
        | (refine wpR_op rfl (fun w9 hw9 K hK => ?_); go_simp; refine rel_fl rfl ?_; intro d4 hd4; refine hK _ ?_; clear hK K hw9 w9)
        | (refine wpR_op rfl (fun w9 hw9 K hK => ?_); go_simp; refine rel_call (ExR.call (sin_c d _)) (fun v => ?_) (fun v hv => ?_); (simp); subst hv; refine hK _ ?_; clear hK K hw9 w9)
        | (refine wpR_op rfl (fun w9 hw9 K hK => ?_); go_simp; refine rel_call (FlR.call (sqrt_c _ _)) (fun v => ?_) (fun v hv => ?_); (simp [spSqrt_iff]); obtain ⟨sd, rfl, hsd⟩ := hv; refine hK _ ?_; clear hK K hw9 w9)
        | (refine wpR_op rfl (fun w9 hw9 K hK => ?_); go_simp; refine rel_call (AnR.call2 (angle_c _ _ _)) (fun v => ?_) (fun v hv => ?_); (simp [spAn2_iff]); subst hv; refine hK _ ?_; clear hK K hw9 w9))
      refine wpR_nil ?_
      intro w8 hx8 _
      replace hw := hw.trans (bareN hx8 rfl rfl rfl rfl)
      replace hb1 := hb1.ext (bareN hx8 rfl rfl rfl rfl)
      replace hb2 := hb2.ext (bareN hx8 rfl rfl rfl rfl)
      replace hbW := hbW.ext (bareN hx8 rfl rfl rfl rfl)
      clear hx8
      have cc := And.intro hb1.cell (And.intro hb2.cell hbW.cell)
      clear hb1 hb2 hbW cc
      have EA : angleP (fbin BinOp.mul (can t) (can (sinP d))) (fbin BinOp.mul (fsqrt (fbin BinOp.add (can 4607182418800017408) (fbin BinOp.mul (can t) (can t)))) (can (cosP d))) = angleP (fmul T (can (sinP d))) (fmul (fsqrt (fadd (can w1S) (fmul T T))) (can (cosP d))) := by
        rw [HT.out]; rfl
      rw [EA]
      have EB : ∀ w, Calls Tryd.prog 36 #[.float .f64 y, .float .f64 x] w (AnR (angleP (tIm tabA cA4 f u V 4) (tRe tabA cA4 f u V 4)) w) := fun w => by
        have := angle_c y x w
        rwa [HY.out, HX.out] at this
      have HEB := Lib.hid EB
      have WZ := ang_wrap (fmul T (can (sinP d))) (fmul (fsqrt (fadd (can w1S) (fmul T T))) (can (cosP d))) (tIm tabA cA4 f u V 4) (tRe tabA cA4 f u V 4)
      have HS2 : Hid (turnA f d u T V = signP ((angleP (fmul T (can (sinP d))) (fmul (fsqrt (fadd (can w1S) (fmul T T))) (can (cosP d)))).1 - (angleP (tIm tabA cA4 f u V 4) (tRe tabA cA4 f u V 4)).1)) := Lib.hid rfl
      have HM7 : Hid (can m7 = turnM a f sc lat d u T V) := by
        have h1 := HX.out
        have h2 := HY.out
        have h3 := HT.out
        exact Lib.hid (by simp only [*, fbin, turnM])
      clear EA EB
      generalize angleP (fmul T (can (sinP d))) (fmul (fsqrt (fadd (can w1S) (fmul T T))) (can (cosP d))) = pa at *
      generalize angleP (tIm tabA cA4 f u V 4) (tRe tabA cA4 f u V 4) = pb at *
      go_wp2_with (first
        | (go_at_call 36; go_must (refine (HEB.out _).mono ?_; rintro e w5 ⟨rfl, hx⟩; replace hw := hw.trans (bareN hx rfl rfl rfl rfl); clear hx))
        | (go_at_call 30; go_must (refine (signed_c _ _).mono ?_; rintro e w5 ⟨rfl, hx⟩; replace hw := hw.trans (bareN hx rfl rfl rfl rfl); clear hx)))
      rw [HS2.out]
      exact bodyPost_ret (v := .tuple #[.float .f64 m7, .int .i64 (signP (pa.1 - pb.1)), .nilIface]) (by simp [results, Tryd.results21, go_sem]) rfl ⟨m7, rfl, HM7.out, hw⟩
end Go.Proofs.YtcppgbhjbmfldaaDoor
