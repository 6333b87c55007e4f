/- Walk: of which place a point of a strip is, with no error in sight. Printed by gen_wavegood.py. -/
import Derived.Test.YtddjppaccpioiaaDoorBC
import Derived.Test.YtddjppaccpioiaaDoorUF
namespace Go.Proofs.YtddjppaccpioiaaDoor
open Go.RowKit Go.Fp Go.Rel
set_option maxRecDepth 20000
set_option maxHeartbeats 8000000 in
theorem sfrom_ok0 {A : Nat → Addr} (a f : Nat) (mid : Int) (sc x y : Nat) (rr : Int) (w : World) (h8 : W0 A w) (hk : strP (okG a f) sc = 0) (hi : inS (rS a f sc) x y = true) (hI : LatOk (isoP f) (fT a f sc x y) rr) :
    Calls Tryd.prog 26 #[stripV a f mid sc, flatU x y] w (ExR (.tuple #[placeU (fLon a f sc mid x y) rr, .nilIface]) w) := by
  have HC := Lib.hid (fun w h8 => svalid_ok0 (A := A) a f mid sc hk w h8)
  have HS := Lib.hid (fun w h8 => series_ok0 (A := A) a f w h8 (strP_ok hk).1)
  have P1 := Lib.hid (fun r (h : can r = rS a f sc) => ordX1 x h)
  have P2 := Lib.hid (fun r (h : can r = rS a f sc) => ordX2 x h)
  have P3 := Lib.hid (fun r q (h : can r = rS a f sc) hq => ordY1 (q := q) y h hq)
  have P4 := Lib.hid (fun r q (h : can r = rS a f sc) hq => ordY2 (q := q) y h hq)
  obtain ⟨d1, d2, d3, d4⟩ : inX1 (rS a f sc) x = true ∧ inX2 (rS a f sc) x = true ∧ inY1 (rS a f sc) y = true ∧ inY2 (rS a f sc) y = true := by
    rcases inS_cases (rS a f sc) x y with ⟨_, h⟩ | ⟨h, _⟩
    · exact h
    · rw [h] at hi; cases hi
  rw [d1] at P1
  rw [d2] at P2
  rw [d3] at P3
  rw [d4] at P4
  have HRS := Lib.hid (show rS a f sc = fmul (radS a f) (can sc) from rfl)
  have HI := Lib.hid hI
  have DW := Lib.hid (show fW a f sc x y = nearP (fZr a f sc x y) from rfl)
  have DK := Lib.hid (show fK a f sc x y = hypK (expP (fZi a f sc x y)) from rfl)
  have DL := Lib.hid (show fLon a f sc mid x y = signP (normP mid + signP (angleP (fK a f sc x y) (can (cosP (fW a f sc x y)))).1) from rfl)
  have DT := Lib.hid (show fT a f sc x y = unP (fdiv (can (sinP (fW a f sc x y))) (fsqrt (fadd (fmul (fK a f sc x y) (fK a f sc x y)) (fmul (can (cosP (fW a f sc x y))) (can (cosP (fW a f sc x y))))))) from rfl)
  have DZr := Lib.hid (show fZr a f sc x y = bRe f (nearP (fdiv (can y) (rS a f sc))) (fdiv (can x) (rS a f sc)) (fdiv (can y) (rS a f sc)) 4 from rfl)
  have DZi := Lib.hid (show fZi a f sc x y = bIm f (nearP (fdiv (can y) (rS a f sc))) (fdiv (can x) (rS a f sc)) (fdiv (can x) (rS a f sc)) 4 from rfl)
  clear hk hi hI d1 d2 d3 d4
  generalize fLon a f sc mid x y = LON at *
  generalize fT a f sc x y = TT at *
  generalize fK a f sc x y = KK0 at *
  generalize fW a f sc x y = WW at *
  generalize fZr a f sc x y = ZR at *
  generalize fZi a f sc x y = ZI at *
  generalize rS a f sc = R at *
  have tk1 : Hid True := trivial
  have tk2 : Hid True := trivial
  have tk3 : Hid True := trivial
  have tk4 : Hid True := trivial
  go_enter Tryd.func26, Tryd.ntmps26
  go_wp2_with (first
    | (go_at_call 64; go_must (refine (HC.out _ (h8.ext (by repeat (first | exact Ext.refl _ | refine Ext.alloc ?_ _)))).mono ?_; rintro e w1 ⟨rfl, hx⟩; obtain ⟨hb1, hb2, hb3, hw⟩ := ext3 hx; clear hx; have c1 := hb1.cell; have c2 := hb2.cell))
    | (go_at_call 59; go_must (refine (HS.out _ (h8.ext hw)).mono ?_; rintro e w2 ⟨r0, y0, y1, y2, y3, x0, x1, x2, x3, rfl, hr0, _, hA, hx⟩; replace hw := hw.trans hx; replace hb1 := hb1.ext hx; replace hb2 := hb2.ext hx; replace hb3 := hb3.ext hx; clear hx c1 c2; have hA' := Lib.hid hA; clear hA; have hr0' := Lib.hid hr0; clear hr0; have k1F : ∀ o o' i, ((w2.alloc o).alloc o').cell? ⟨w.heap.size, i, none⟩ = #[Value.float .f64 a, Value.float .f64 f, Value.int .i64 mid, Value.float .f64 sc][i]? := (fun o o' i => (hb1.ext (((Ext.refl w2).alloc o).alloc o')).cell i); have k2F : ∀ o o' i, ((w2.alloc o).alloc o').cell? ⟨w.heap.size + 1, i, none⟩ = #[Value.float .f64 x, Value.float .f64 y][i]? := (fun o o' i => (hb2.ext (((Ext.refl w2).alloc o).alloc o')).cell i)))
    | (clear tk1; (with_reducible refine upon_fl rfl ?_); go_must (intro r nr hr; have hr' : can r = R := (by rw [HRS.out, hr, hr0'.out]; rfl); clear hr; have Q1 := (P1.out r hr').symm; have Q2 := (P2.out r hr').symm; clear P1 P2; have HR' := Lib.hid hr'; clear hr'))
    | (clear tk2; (with_reducible refine upon_fl rfl ?_); go_must (intro q nq hq; have Q3 := (P3.out r q HR'.out hq).symm; clear P3 hq))
    | (clear tk3; (with_reducible refine upon_fl rfl ?_); go_must (intro q2 nq2 hq2; have Q4 := (P4.out r q2 HR'.out hq2).symm; clear P4 hq2))
    | (clear tk4; (with_reducible refine upon_fl rfl ?_); go_must (intro z0 nz0 hz0; have HZ0 : Hid (can z0 = fdiv (can y) R) := Lib.hid (by rw [hz0, HR'.out]; rfl); clear hz0))
    | ((with_reducible refine upon_fl rfl ?_); go_must (intro z1 nz1 hz1; have HZ1 : Hid (can z1 = fdiv (can x) R) := Lib.hid (by rw [hz1, HR'.out]; rfl); clear hz1))
    | (go_at_call 43; go_must (refine (nearest_c _ _).mono ?_; rintro e w3 ⟨rfl, hx⟩)))
  have hx' : Ext ((w2.alloc (.cells #[.float .f64 y0, .float .f64 y1, .float .f64 y2, .float .f64 y3] 99)).alloc (.cells #[.float .f64 x0, .float .f64 x1, .float .f64 x2, .float .f64 x3] 99)) w3 := bareN hx rfl rfl rfl rfl
  obtain ⟨_, hbB, e3⟩ := ext2 hx'
  replace hw := hw.trans e3
  replace hb1 := hb1.ext e3
  replace hb3 := hb3.ext e3
  clear hx hx' e3 k1F k2F Q1 Q2 Q3 Q4 hb2
  obtain ⟨CB, hCB⟩ : ∃ C : Array Value, C = #[.float .f64 x0, .float .f64 x1, .float .f64 x2, .float .f64 x3] := ⟨_, rfl⟩
  rw [← hCB] at hbB
  have HCB := Lib.hid hCB
  clear hCB
  obtain ⟨U, hU⟩ : ∃ U, U = nearP (can z0) := ⟨_, rfl⟩
  rw [← hU]
  have HU : Hid (U = nearP (fdiv (can y) R)) := Lib.hid (by rw [hU, HZ0.out])
  clear hU
  go_loopw [12, 84] (fun zv iv wr => ∃ (k p q : Nat), zv = .complex .f64 p q ∧ iv = .int .i64 k ∧ k ≤ 4 ∧ can p = bRe f U (can z1) (can z0) k ∧ can q = bIm f U (can z1) (can z1) k ∧ Ext w wr ∧ Blk wr w.heap.size 56 #[.float .f64 a, .float .f64 f, .int .i64 mid, .float .f64 sc] ∧ Blk wr (w2.heap.size + 1) 99 CB ∧ Blk wr (w.heap.size + 1 + 1) 26 #[.int .i64 0, .int .i64 0]) (fun _ iv _ => 4 - (RowKit.intOf iv).toNat)
  case atStart => exact ⟨0, _, _, rfl, rfl, by omega, rfl, rfl, hw, hb1, hbB, hb3⟩
  case round =>
    clear hw hb1 hb3 hbB
    obtain ⟨k, p, q, rfl, rfl, hk, hp, hq, hw, hb1, hbB, hb3⟩ := hrel
    have HX := Lib.hid hp
    have HY := Lib.hid hq
    clear hp hq
    rcases Nat.lt_or_ge k 4 with hlt | hge
    · obtain ⟨J, hJ⟩ : ∃ J : Int, J = (k : Int) + 1 := ⟨_, rfl⟩
      obtain ⟨J2, hJ2⟩ : ∃ J2 : Int, J2 = 2 * J := ⟨_, rfl⟩
      obtain ⟨M, hM⟩ : ∃ M : Int, M = mW k U := ⟨_, rfl⟩
      have WA : IntKind.i64.wrap ((k : Int) + 1) = J := by rw [hJ]; exact IntWalk.i64_in _ ⟨by omega, by omega⟩
      have WB : IntKind.i64.wrap (2 * J) = J2 := by rw [hJ2]; exact IntWalk.i64_in _ ⟨by omega, by omega⟩
      have WC : IntKind.i64.wrap (J2 * U) = M := by rw [hM, hJ2, hJ]; rfl
      have K1 : (k : Int) < 4 := by omega
      obtain ⟨yk, EY, hyk⟩ := row_at hA'.out k hlt
      rw [← HCB.out] at EY
      have HM := Lib.hid hM
      have HJ0 := Lib.hid hJ
      have HJ : Hid (J2 = 2 * ((k : Int) + 1)) := Lib.hid (by rw [hJ2, hJ])
      clear hM hJ hJ2
      go_wp2_with fail
      refine wp_region_all FZ (by kernel_rfl) (by kernel_rfl) ?_
      repeat (first
        | (refine wpR_op rfl (fun w9 hw9 K hK => ?_); have k3 := (hbB.ext (bareN hw9 rfl rfl rfl rfl)).cell; go_simp; refine hK _ ?_; clear hK K k3 hw9 w9)
        | (refine wpR_op rfl (fun w9 hw9 K hK => ?_); go_simp; refine rel_fl rfl ?_; intro fv hfv; refine hK _ ?_; clear hK K hw9 w9)
        | (refine wpR_op rfl (fun w9 hw9 K hK => ?_); go_simp; refine rel_call (CxR.call (sine_c _ _ _)) (fun v => ?_) (fun v hv => ?_); (simp [FZ, spSine_iff]); obtain ⟨sx, sy, rfl, hsx, hsy⟩ := hv; refine hK _ ?_; clear hK K hw9 w9)
        | (refine wpR_op rfl (fun w9 hw9 K hK => ?_); go_simp; refine rel_call (CxR.call (times_c _ _ _ _)) (fun v => ?_) (fun v hv => ?_); (simp [FZ, spTimes_iff]); obtain ⟨tx, ty, rfl, htx, hty⟩ := hv; refine hK _ ?_; clear hK K hw9 w9)
        | (refine wpR_op rfl (fun w9 hw9 K hK => ?_); go_simp; refine rel_cx rfl ?_; intro zx zy hzx hzy; refine hK _ ?_; clear hK K hw9 w9))
      refine wpR_nil ?_
      intro w8 hx8 _
      replace hw := hw.trans (bareN hx8 rfl rfl rfl rfl)
      replace hb3 := hb3.ext (bareN hx8 rfl rfl rfl rfl)
      replace hbB := hbB.ext (bareN hx8 rfl rfl rfl rfl)
      replace hb1 := hb1.ext (bareN hx8 rfl rfl rfl rfl)
      clear hx8
      go_wp2_with fail
      go_roundw
      case rel =>
        refine ⟨k + 1, zx, zy, rfl, by rw [HJ0.out]; simp, by omega, ?_, ?_, hw, hb1, hbB, hb3⟩
        · rw [hzx, HX.out, htx, hsx, hfv, hyk, HM.out, HJ.out]; rfl
        · rw [hzy, HY.out, hty, hsy, hfv, hyk, HM.out, HJ.out]; rfl
      case measure =>
        have hj := HJ0.out
        simp [RowKit.intOf]; omega
    · have h4 : k = 4 := by omega
      subst h4
      have HZR : Hid (can p = ZR) := Lib.hid (by rw [HX.out, DZr.out, HU.out, HZ0.out, HZ1.out])
      have HZI : Hid (can q = ZI) := Lib.hid (by rw [HY.out, DZi.out, HU.out, HZ1.out])
      clear hbB HX HY HZ0 HZ1 HU DZr DZi
      have HN1 : Hid (∀ w, Calls Tryd.prog 43 #[.float .f64 p] w (ExR (.int .i64 WW) w)) := Lib.hid (fun w => by
        have := nearest_c p w
        rwa [HZR.out, ← DW.out] at this)
      go_wp2_with (first
        | (go_at_call 43; go_must (refine (HN1.out _).mono ?_; rintro e w4 ⟨rfl, hx⟩; replace hw := hw.trans (bareN hx rfl rfl rfl rfl); replace hb1 := hb1.ext (bareN hx rfl rfl rfl rfl); replace hb3 := hb3.ext (bareN hx rfl rfl rfl rfl); clear hx))
        | (go_at_call 65; go_must (refine (hyper_c _ _).mono ?_; rintro e w4 ⟨hh, kk, rfl, hhh, hkk, hx⟩; have hk0 : can kk = KK0 := (by rw [hkk, HZI.out, DK.out]); clear hkk hhh; replace hw := hw.trans (bareN hx rfl rfl rfl rfl); replace hb1 := hb1.ext (bareN hx rfl rfl rfl rfl); replace hb3 := hb3.ext (bareN hx rfl rfl rfl rfl); clear hx))
        | (go_at_call 45; go_must (refine (cos_c _ _).mono ?_; rintro e w4 ⟨rfl, hx⟩; replace hw := hw.trans (bareN hx rfl rfl rfl rfl); replace hb1 := hb1.ext (bareN hx rfl rfl rfl rfl); replace hb3 := hb3.ext (bareN hx rfl rfl rfl rfl); clear hx))
        | (go_at_call 44; go_must (refine (sin_c _ _).mono ?_; rintro e w4 ⟨rfl, hx⟩; replace hw := hw.trans (bareN hx rfl rfl rfl rfl); replace hb1 := hb1.ext (bareN hx rfl rfl rfl rfl); replace hb3 := hb3.ext (bareN hx rfl rfl rfl rfl); clear hx))
        | (go_at_call 46; go_must (refine (sqrt_c _ _).mono ?_; rintro e w4 ⟨sq, rfl, hsq, hx⟩; replace hw := hw.trans (bareN hx rfl rfl rfl rfl); replace hb1 := hb1.ext (bareN hx rfl rfl rfl rfl); replace hb3 := hb3.ext (bareN hx rfl rfl rfl rfl); clear hx))
        | (go_at_call 47; go_must (refine (angle_c _ _ _).mono ?_; rintro e w4 ⟨rfl, hx⟩; replace hw := hw.trans (bareN hx rfl rfl rfl rfl); replace hb1 := hb1.ext (bareN hx rfl rfl rfl rfl); replace hb3 := hb3.ext (bareN hx rfl rfl rfl rfl); clear hx))
        | (with_reducible refine upon_fl rfl ?_; intro r n hr))
      have hR0 : Hid (unP (can r) = TT) := Lib.hid (by rw [DT.out]; simp only [*, fbin])
      have WN := two_norm mid (angleP KK0 (can (cosP WW))).1
      have HLON := Lib.hid DL.out
      clear hr hsq
      generalize (angleP KK0 (can (cosP WW))).1 = AP at *
      refine wp_region_head 13 (fun g args v => (g = 42 ∧ SpI normP args v) ∨ (g = 41 ∧ SpI signP args v) ∨ (g = 67 ∧ SpUn args v) ∨ (g = 66 ∧ v = .int .i64 rr)) (by kernel_rfl) (by kernel_rfl) ?_
      simp only [List.take_succ_cons, List.take_zero, List.drop_succ_cons, List.drop_zero]
      repeat (first
        | (refine wpR_op rfl (fun w9 hw9 K hK => ?_); have k3 := (hb1.ext (bareN hw9 rfl rfl rfl rfl)).cell; go_simp; refine hK _ ?_; clear hK K k3 hw9 w9)
        | (refine wpR_op rfl (fun w9 hw9 K hK => ?_); go_simp; refine rel_call (call_same (norm_c _ _)) (fun v => ?_) (fun v hv => ?_); (simp [spI_iff]); subst hv; refine hK _ ?_; clear hK K hw9 w9)
        | (refine wpR_op rfl (fun w9 hw9 K hK => ?_); go_simp; refine rel_call (ExR.call (signed_c _ _)) (fun v => ?_) (fun v hv => ?_); (simp [spI_iff]); subst hv; refine hK _ ?_; clear hK K hw9 w9)
        | (refine wpR_op rfl (fun w9 hw9 K hK => ?_); go_simp; refine rel_call (FlR.call (unsinh_c _ _)) (fun v => ?_) (fun v hv => ?_); (simp [spUn_iff]); obtain ⟨un, rfl, hun⟩ := hv; refine hK _ ?_; clear hK K hw9 w9)
        | (refine wpR_op rfl (fun w9 hw9 K hK => ?_); go_simp; refine rel_call (ExR.call (lat_c a f un rr _ (by rw [hun, hR0.out]; exact HI.out))) (fun v => ?_) (fun v hv => ?_); (simp); subst hv; refine hK _ ?_; clear hK K hw9 w9))
      refine wpR_nil ?_
      intro w7 hx8 _
      replace hw := hw.trans (bareN hx8 rfl rfl rfl rfl)
      replace hb3 := hb3.ext (bareN hx8 rfl rfl rfl rfl)
      clear hx8 hb1
      go_wp2_with (first
        | (refine wpList_own rfl 26 _ _ rfl _ _ rfl rfl _ _ hb3 (by kernel_rfl) rfl (by simp [Value.oneCell']) ?_; go_must (intro u bn en sn; replace hw := en w (by repeat (first | exact hw | refine Ext.drewN ?_ _)) (by omega); have kc := bn.cell; clear sn en hb3)))
      exact bodyPost_ret (v := .tuple #[placeU (signP (normP mid + signP AP)) rr, .nilIface]) (by simp [results, Tryd.results26, go_sem, kc]) rfl ⟨by rw [HLON.out], hw⟩
end Go.Proofs.YtddjppaccpioiaaDoor
