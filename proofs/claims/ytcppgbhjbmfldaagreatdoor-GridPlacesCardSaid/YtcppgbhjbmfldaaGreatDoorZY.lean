/- Walks: of which place a point of a strip is: package wave's From. Printed by gen_wavefrom.py. -/
import Derived.Test.YtcppgbhjbmfldaaGreatDoorZX
import Derived.Test.YtcppgbhjbmfldaaGreatDoorCU
namespace Go.Proofs.YtcppgbhjbmfldaaGreatDoor
open Go.RowKit Go.Fp Go.Rel
set_option maxRecDepth 20000

set_option maxHeartbeats 8000000 in
theorem sfrom_shape {A : Nat → Addr} (a f : Nat) (mid : Int) (sc x y : Nat) (w : World) (h8 : World8 A w) (hk : strP (okG a f) sc = 3) :
    Calls Tryz.prog 26 #[stripV a f mid sc, flatU x y] w (ExR (.tuple #[placeU 0 0, errV (A 4)]) w) := by
  have HC0 := fun w h8 => svalid_c (A := A) a f mid sc w h8
  simp only [hk] at HC0
  have HC := Lib.hid HC0
  clear hk HC0
  go_enter Tryz.func26, Tryz.ntmps26
  go_wp2_with (first
    | (go_at_call 51; go_must (refine (HC.out _ (h8.ext (by repeat (first | exact Ext.refl _ | refine Ext.alloc ?_ _)))).mono ?_; rintro e w1 ⟨v, rfl, hv, hx⟩; cases hv; obtain ⟨hb1, hb2, hb3, hw⟩ := ext3 hx; clear hx))
    | (refine wpList_own rfl 23 _ _ rfl _ _ rfl rfl _ _ hb3 (by kernel_rfl) rfl (by simp [Value.oneCell']) ?_; go_must (intro u bn en sn; replace hw := en w (by repeat (first | exact hw | refine Ext.drewN ?_ _)) (by omega); have kc := bn.cell; clear sn en hb3)))
  exact bodyPost_ret (v := .tuple #[placeU 0 0, errV (A 4)]) (by simp [results, Tryz.results26, go_sem, kc]) rfl ⟨rfl, hw⟩

theorem inS_cases (R x y : Nat) : inS R x y = true ∧ inX1 R x = true ∧ inX2 R x = true ∧ inY1 R y = true ∧ inY2 R y = true ∨ inS R x y = false ∧ (inX1 R x = false ∨ inX1 R x = true ∧ inX2 R x = false ∨ inX1 R x = true ∧ inX2 R x = true ∧ inY1 R y = false ∨ inX1 R x = true ∧ inX2 R x = true ∧ inY1 R y = true ∧ inY2 R y = false) := by
  unfold inS
  cases inX1 R x <;> cases inX2 R x <;> cases inY1 R y <;> cases inY2 R y <;> simp
set_option maxHeartbeats 16000000 in
theorem sfrom_out {A : Nat → Addr} (a f : Nat) (mid : Int) (sc x y : Nat) (w : World) (h8 : World8 A w) (hk : strP (okG a f) sc = 0) (hi : inS (rS a f sc) x y = false) :
    Calls Tryz.prog 26 #[stripV a f mid sc, flatU x y] w (ExR (.tuple #[placeU 0 0, errV (A 0)]) w) := by
  have HC := Lib.hid (fun w h8 => svalid_ok (A := A) a f mid sc hk w h8)
  have HS := Lib.hid (fun w h8 => series_ok (A := A) a f w h8 (strP_ok hk).1)
  have P1 := Lib.hid (fun r (h : can r = rS a f sc) => ordX1 x h)
  have P2 := Lib.hid (fun r (h : can r = rS a f sc) => ordX2 x h)
  have P3 := Lib.hid (fun r q (h : can r = rS a f sc) hq => ordY1 (q := q) y h hq)
  have P4 := Lib.hid (fun r q (h : can r = rS a f sc) hq => ordY2 (q := q) y h hq)
  have hq0 : (inX1 (rS a f sc) x = false ∨ inX1 (rS a f sc) x = true ∧ inX2 (rS a f sc) x = false ∨ inX1 (rS a f sc) x = true ∧ inX2 (rS a f sc) x = true ∧ inY1 (rS a f sc) y = false ∨ inX1 (rS a f sc) x = true ∧ inX2 (rS a f sc) x = true ∧ inY1 (rS a f sc) y = true ∧ inY2 (rS a f sc) y = false) := by
    rcases inS_cases (rS a f sc) x y with ⟨h, _⟩ | ⟨_, h⟩
    · rw [h] at hi; cases hi
    · exact h
  have RS : rS a f sc = fmul (radS a f) (can sc) := rfl
  have HRS := Lib.hid RS
  clear hk hi RS
  generalize rS a f sc = R at *
  generalize inX1 R x = b1 at *
  generalize inX2 R x = b2 at *
  generalize inY1 R y = b3 at *
  generalize inY2 R y = b4 at *
  have tk1 : Hid True := trivial
  have tk2 : Hid True := trivial
  rcases hq0 with rfl | ⟨rfl, rfl⟩ | ⟨rfl, rfl, rfl⟩ | ⟨rfl, rfl, rfl, rfl⟩
  all_goals
    go_enter Tryz.func26, Tryz.ntmps26
    go_wp2_with (first
      | (go_at_call 51; go_must (refine (HC.out _ (h8.ext (by repeat (first | exact Ext.refl _ | refine Ext.alloc ?_ _)))).mono ?_; rintro e w1 ⟨rfl, hx⟩; obtain ⟨hb1, hb2, hb3, hw⟩ := ext3 hx; clear hx; have c1 := hb1.cell; have c2 := hb2.cell))
      | (go_at_call 34; go_must (refine (HS.out _ (h8.ext hw)).mono ?_; rintro e w2 ⟨r0, y0, y1, y2, y3, x0, x1, x2, x3, rfl, hr0, _, _, hx⟩; replace hw := hw.trans hx; replace hb1 := hb1.ext hx; replace hb2 := hb2.ext hx; replace hb3 := hb3.ext hx; clear hx c1 c2; have hr0' := Lib.hid hr0; clear hr0; have kgF : ∀ o o', ((w2.alloc o).alloc o').cell? ⟨0, 0, none⟩ = some (errV (A 0)) := (fun o o' => (h8.ext ((hw.alloc o).alloc o')).errs.cell 0 (by decide)); have k1F : ∀ o o' i, ((w2.alloc o).alloc o').cell? ⟨w.heap.size, i, none⟩ = #[Value.float .f64 a, Value.float .f64 f, Value.int .i64 mid, Value.float .f64 sc][i]? := (fun o o' i => (hb1.ext (((Ext.refl w2).alloc o).alloc o')).cell i); have k2F : ∀ o o' i, ((w2.alloc o).alloc o').cell? ⟨w.heap.size + 1, i, none⟩ = #[Value.float .f64 x, Value.float .f64 y][i]? := (fun o o' i => (hb2.ext (((Ext.refl w2).alloc o).alloc o')).cell i); have k3F : ∀ o o' i, ((w2.alloc o).alloc o').cell? ⟨w.heap.size + 1 + 1, i, none⟩ = #[Value.int .i64 0, Value.int .i64 0][i]? := (fun o o' i => (hb3.ext (((Ext.refl w2).alloc o).alloc o')).cell i); have f3F : ∀ o o' i, ((w2.alloc o).alloc o').frozen? ⟨w.heap.size + 1 + 1, i, none⟩ = false := (fun o o' i => (hb3.ext (((Ext.refl w2).alloc o).alloc o')).frozen i)))
      | (clear tk1; (with_reducible refine upon_fl rfl ?_); go_must (intro r nr hr; have hr' : can r = R := (by rw [HRS.out, hr, hr0'.out]; rfl); clear hr; have Q1 := (P1.out r hr').symm; have Q2 := (P2.out r hr').symm; clear P1 P2; have HR' := Lib.hid hr'; clear hr'))
      | (clear tk2; (with_reducible refine upon_fl rfl ?_); go_must (intro q nq hq; have Q3 := (P3.out r q HR'.out hq).symm; clear P3 hq))
      | ((with_reducible refine upon_fl rfl ?_); go_must (intro q2 nq2 hq2; have Q4 := (P4.out r q2 HR'.out hq2).symm; clear P4 hq2)))
    go_region
    all_goals go_wp2_with fail
    all_goals first
      | exact bodyPost_ret (v := .tuple #[placeU 0 0, errV (A 0)]) (by simp [results, Tryz.results26, go_sem, k3F]) rfl ⟨rfl, (by repeat (first | (with_reducible exact hw) | (with_reducible refine ext_set2 ?_ _ _) | (with_reducible refine Ext.drew ?_) | (with_reducible refine Ext.drewN ?_ _) | (with_reducible refine Ext.alloc ?_ _)))⟩
      | trace_state
end Go.Proofs.YtcppgbhjbmfldaaGreatDoor

/- Walk: of which place a point of a strip is: package wave's From, the good way. Printed by gen_wavefrom.py. -/
namespace Go.Proofs.YtcppgbhjbmfldaaGreatDoor
open Go.RowKit Go.Fp Go.Rel
set_option maxRecDepth 20000

def SpUn (args : Array Value) (v : Value) : Prop := ∃ x : Nat, args = #[.float .f64 x] ∧ isFl (unP (can x)) v
theorem spUn_iff (x : Nat) (v : Value) : SpUn #[.float .f64 x] v ↔ isFl (unP (can x)) v := by
  unfold SpUn
  exact ⟨fun ⟨_, h, k⟩ => by simp at h; obtain rfl := h; exact k, fun h => ⟨_, rfl, h⟩⟩
theorem two_norm (m : Int) (v : Int) : IntKind.i64.wrap (normP m + signP v) = normP m + signP v :=
  IntWalk.i64_in _ ⟨by have := normP_lo m; have := signP_range v; omega, by have := normP_hi m; have := signP_range v; omega⟩

set_option maxHeartbeats 8000000 in
theorem sfrom_ok {A : Nat → Addr} (a f : Nat) (mid : Int) (sc x y : Nat) (rr : Int) (w : World) (h8 : World8 A w) (hk : strP (okG a f) sc = 0) (hi : inS (rS a f sc) x y = true) (hI : LatOk (isoP f) (fT a f sc x y) rr) :
    Calls Tryz.prog 26 #[stripV a f mid sc, flatU x y] w (ExR (.tuple #[placeU (fLon a f sc mid x y) rr, .nilIface]) w) := by
  have HC := Lib.hid (fun w h8 => svalid_ok (A := A) a f mid sc hk w h8)
  have HS := Lib.hid (fun w h8 => series_ok (A := A) a f w h8 (strP_ok hk).1)
  have P1 := Lib.hid (fun r (h : can r = rS a f sc) => ordX1 x h)
  have P2 := Lib.hid (fun r (h : can r = rS a f sc) => ordX2 x h)
  have P3 := Lib.hid (fun r q (h : can r = rS a f sc) hq => ordY1 (q := q) y h hq)
  have P4 := Lib.hid (fun r q (h : can r = rS a f sc) hq => ordY2 (q := q) y h hq)
  obtain ⟨d1, d2, d3, d4⟩ : inX1 (rS a f sc) x = true ∧ inX2 (rS a f sc) x = true ∧ inY1 (rS a f sc) y = true ∧ inY2 (rS a f sc) y = true := by
    rcases inS_cases (rS a f sc) x y with ⟨_, h⟩ | ⟨h, _⟩
    · exact h
    · rw [h] at hi; cases hi
  rw [d1] at P1
  rw [d2] at P2
  rw [d3] at P3
  rw [d4] at P4
  have HRS := Lib.hid (show rS a f sc = fmul (radS a f) (can sc) from rfl)
  have HI := Lib.hid hI
  have DW := Lib.hid (show fW a f sc x y = nearP (fZr a f sc x y) from rfl)
  have DK := Lib.hid (show fK a f sc x y = hypK (expP (fZi a f sc x y)) from rfl)
  have DL := Lib.hid (show fLon a f sc mid x y = signP (normP mid + signP (angleP (fK a f sc x y) (can (cosP (fW a f sc x y)))).1) from rfl)
  have DT := Lib.hid (show fT a f sc x y = unP (fdiv (can (sinP (fW a f sc x y))) (fsqrt (fadd (fmul (fK a f sc x y) (fK a f sc x y)) (fmul (can (cosP (fW a f sc x y))) (can (cosP (fW a f sc x y))))))) from rfl)
  have DZr := Lib.hid (show fZr a f sc x y = bRe f (nearP (fdiv (can y) (rS a f sc))) (fdiv (can x) (rS a f sc)) (fdiv (can y) (rS a f sc)) 4 from rfl)
  have DZi := Lib.hid (show fZi a f sc x y = bIm f (nearP (fdiv (can y) (rS a f sc))) (fdiv (can x) (rS a f sc)) (fdiv (can x) (rS a f sc)) 4 from rfl)
  clear hk hi hI d1 d2 d3 d4
  generalize fLon a f sc mid x y = LON at *
  generalize fT a f sc x y = TT at *
  generalize fK a f sc x y = KK0 at *
  generalize fW a f sc x y = WW at *
  generalize fZr a f sc x y = ZR at *
  generalize fZi a f sc x y = ZI at *
  generalize rS a f sc = R at *
  have tk1 : Hid True := trivial
  have tk2 : Hid True := trivial
  have tk3 : Hid True := trivial
  have tk4 : Hid True := trivial
  go_enter Tryz.func26, Tryz.ntmps26
  go_wp2_with (first
    | (go_at_call 51; go_must (refine (HC.out _ (h8.ext (by repeat (first | exact Ext.refl _ | refine Ext.alloc ?_ _)))).mono ?_; rintro e w1 ⟨rfl, hx⟩; obtain ⟨hb1, hb2, hb3, hw⟩ := ext3 hx; clear hx; have c1 := hb1.cell; have c2 := hb2.cell))
    | (go_at_call 34; go_must (refine (HS.out _ (h8.ext hw)).mono ?_; rintro e w2 ⟨r0, y0, y1, y2, y3, x0, x1, x2, x3, rfl, hr0, _, hA, hx⟩; replace hw := hw.trans hx; replace hb1 := hb1.ext hx; replace hb2 := hb2.ext hx; replace hb3 := hb3.ext hx; clear hx c1 c2; have hA' := Lib.hid hA; clear hA; have hr0' := Lib.hid hr0; clear hr0; have k1F : ∀ o o' i, ((w2.alloc o).alloc o').cell? ⟨w.heap.size, i, none⟩ = #[Value.float .f64 a, Value.float .f64 f, Value.int .i64 mid, Value.float .f64 sc][i]? := (fun o o' i => (hb1.ext (((Ext.refl w2).alloc o).alloc o')).cell i); have k2F : ∀ o o' i, ((w2.alloc o).alloc o').cell? ⟨w.heap.size + 1, i, none⟩ = #[Value.float .f64 x, Value.float .f64 y][i]? := (fun o o' i => (hb2.ext (((Ext.refl w2).alloc o).alloc o')).cell i)))
    | (clear tk1; (with_reducible refine upon_fl rfl ?_); go_must (intro r nr hr; have hr' : can r = R := (by rw [HRS.out, hr, hr0'.out]; rfl); clear hr; have Q1 := (P1.out r hr').symm; have Q2 := (P2.out r hr').symm; clear P1 P2; have HR' := Lib.hid hr'; clear hr'))
    | (clear tk2; (with_reducible refine upon_fl rfl ?_); go_must (intro q nq hq; have Q3 := (P3.out r q HR'.out hq).symm; clear P3 hq))
    | (clear tk3; (with_reducible refine upon_fl rfl ?_); go_must (intro q2 nq2 hq2; have Q4 := (P4.out r q2 HR'.out hq2).symm; clear P4 hq2))
    | (clear tk4; (with_reducible refine upon_fl rfl ?_); go_must (intro z0 nz0 hz0; have HZ0 : Hid (can z0 = fdiv (can y) R) := Lib.hid (by rw [hz0, HR'.out]; rfl); clear hz0))
    | ((with_reducible refine upon_fl rfl ?_); go_must (intro z1 nz1 hz1; have HZ1 : Hid (can z1 = fdiv (can x) R) := Lib.hid (by rw [hz1, HR'.out]; rfl); clear hz1))
    | (go_at_call 52; go_must (refine (nearest_c _ _).mono ?_; rintro e w3 ⟨rfl, hx⟩)))
  have hx' : Ext ((w2.alloc (.cells #[.float .f64 y0, .float .f64 y1, .float .f64 y2, .float .f64 y3] 81)).alloc (.cells #[.float .f64 x0, .float .f64 x1, .float .f64 x2, .float .f64 x3] 81)) w3 := bareN hx rfl rfl rfl rfl
  obtain ⟨_, hbB, e3⟩ := ext2 hx'
  replace hw := hw.trans e3
  replace hb1 := hb1.ext e3
  replace hb3 := hb3.ext e3
  clear hx hx' e3 k1F k2F Q1 Q2 Q3 Q4 hb2
  obtain ⟨CB, hCB⟩ : ∃ C : Array Value, C = #[.float .f64 x0, .float .f64 x1, .float .f64 x2, .float .f64 x3] := ⟨_, rfl⟩
  rw [← hCB] at hbB
  have HCB := Lib.hid hCB
  clear hCB
  obtain ⟨U, hU⟩ : ∃ U, U = nearP (can z0) := ⟨_, rfl⟩
  rw [← hU]
  have HU : Hid (U = nearP (fdiv (can y) R)) := Lib.hid (by rw [hU, HZ0.out])
  clear hU
  go_loopw [12, 84] (fun zv iv wr => ∃ (k p q : Nat), zv = .complex .f64 p q ∧ iv = .int .i64 k ∧ k ≤ 4 ∧ can p = bRe f U (can z1) (can z0) k ∧ can q = bIm f U (can z1) (can z1) k ∧ Ext w wr ∧ Blk wr w.heap.size 53 #[.float .f64 a, .float .f64 f, .int .i64 mid, .float .f64 sc] ∧ Blk wr (w2.heap.size + 1) 81 CB ∧ Blk wr (w.heap.size + 1 + 1) 23 #[.int .i64 0, .int .i64 0]) (fun _ iv _ => 4 - (RowKit.intOf iv).toNat)
  case atStart => exact ⟨0, _, _, rfl, rfl, by omega, rfl, rfl, hw, hb1, hbB, hb3⟩
  case round =>
    clear hw hb1 hb3 hbB
    obtain ⟨k, p, q, rfl, rfl, hk, hp, hq, hw, hb1, hbB, hb3⟩ := hrel
    have HX := Lib.hid hp
    have HY := Lib.hid hq
    clear hp hq
    rcases Nat.lt_or_ge k 4 with hlt | hge
    · obtain ⟨J, hJ⟩ : ∃ J : Int, J = (k : Int) + 1 := ⟨_, rfl⟩
      obtain ⟨J2, hJ2⟩ : ∃ J2 : Int, J2 = 2 * J := ⟨_, rfl⟩
      obtain ⟨M, hM⟩ : ∃ M : Int, M = mW k U := ⟨_, rfl⟩
      have WA : IntKind.i64.wrap ((k : Int) + 1) = J := by rw [hJ]; exact IntWalk.i64_in _ ⟨by omega, by omega⟩
      have WB : IntKind.i64.wrap (2 * J) = J2 := by rw [hJ2]; exact IntWalk.i64_in _ ⟨by omega, by omega⟩
      have WC : IntKind.i64.wrap (J2 * U) = M := by rw [hM, hJ2, hJ]; rfl
      have K1 : (k : Int) < 4 := by omega
      obtain ⟨yk, EY, hyk⟩ := row_at hA'.out k hlt
      rw [← HCB.out] at EY
      have HM := Lib.hid hM
      have HJ0 := Lib.hid hJ
      have HJ : Hid (J2 = 2 * ((k : Int) + 1)) := Lib.hid (by rw [hJ2, hJ])
      clear hM hJ hJ2
      go_wp2_with fail
      refine wp_region_all FZ (by kernel_rfl) (by kernel_rfl) ?_
      repeat (first
        | (refine wpR_op rfl (fun w9 hw9 K hK => ?_); have k3 := (hbB.ext (bareN hw9 rfl rfl rfl rfl)).cell; go_simp; refine hK _ ?_; clear hK K k3 hw9 w9)
        | (refine wpR_op rfl (fun w9 hw9 K hK => ?_); go_simp; refine rel_fl rfl ?_; intro fv hfv; refine hK _ ?_; clear hK K hw9 w9)
        | (refine wpR_op rfl (fun w9 hw9 K hK => ?_); go_simp; refine rel_call (CxR.call (sine_c _ _ _)) (fun v => ?_) (fun v hv => ?_); (simp [FZ, spSine_iff]); obtain ⟨sx, sy, rfl, hsx, hsy⟩ := hv; refine hK _ ?_; clear hK K hw9 w9)
        | (refine wpR_op rfl (fun w9 hw9 K hK => ?_); go_simp; refine rel_call (CxR.call (times_c _ _ _ _)) (fun v => ?_) (fun v hv => ?_); (simp [FZ, spTimes_iff]); obtain ⟨tx, ty, rfl, htx, hty⟩ := hv; refine hK _ ?_; clear hK K hw9 w9)
        | (refine wpR_op rfl (fun w9 hw9 K hK => ?_); go_simp; refine rel_cx rfl ?_; intro zx zy hzx hzy; refine hK _ ?_; clear hK K hw9 w9))
      refine wpR_nil ?_
      intro w8 hx8 _
      replace hw := hw.trans (bareN hx8 rfl rfl rfl rfl)
      replace hb3 := hb3.ext (bareN hx8 rfl rfl rfl rfl)
      replace hbB := hbB.ext (bareN hx8 rfl rfl rfl rfl)
      replace hb1 := hb1.ext (bareN hx8 rfl rfl rfl rfl)
      clear hx8
      go_wp2_with fail
      go_roundw
      case rel =>
        refine ⟨k + 1, zx, zy, rfl, by rw [HJ0.out]; simp, by omega, ?_, ?_, hw, hb1, hbB, hb3⟩
        · rw [hzx, HX.out, htx, hsx, hfv, hyk, HM.out, HJ.out]; rfl
        · rw [hzy, HY.out, hty, hsy, hfv, hyk, HM.out, HJ.out]; rfl
      case measure =>
        have hj := HJ0.out
        simp [RowKit.intOf]; omega
    · have h4 : k = 4 := by omega
      subst h4
      have HZR : Hid (can p = ZR) := Lib.hid (by rw [HX.out, DZr.out, HU.out, HZ0.out, HZ1.out])
      have HZI : Hid (can q = ZI) := Lib.hid (by rw [HY.out, DZi.out, HU.out, HZ1.out])
      clear hbB HX HY HZ0 HZ1 HU DZr DZi
      have HN1 : Hid (∀ w, Calls Tryz.prog 52 #[.float .f64 p] w (ExR (.int .i64 WW) w)) := Lib.hid (fun w => by
        have := nearest_c p w
        rwa [HZR.out, ← DW.out] at this)
      go_wp2_with (first
        | (go_at_call 52; go_must (refine (HN1.out _).mono ?_; rintro e w4 ⟨rfl, hx⟩; replace hw := hw.trans (bareN hx rfl rfl rfl rfl); replace hb1 := hb1.ext (bareN hx rfl rfl rfl rfl); replace hb3 := hb3.ext (bareN hx rfl rfl rfl rfl); clear hx))
        | (go_at_call 53; go_must (refine (hyper_c _ _).mono ?_; rintro e w4 ⟨hh, kk, rfl, hhh, hkk, hx⟩; have hk0 : can kk = KK0 := (by rw [hkk, HZI.out, DK.out]); clear hkk hhh; replace hw := hw.trans (bareN hx rfl rfl rfl rfl); replace hb1 := hb1.ext (bareN hx rfl rfl rfl rfl); replace hb3 := hb3.ext (bareN hx rfl rfl rfl rfl); clear hx))
        | (go_at_call 54; go_must (refine (cos_c _ _).mono ?_; rintro e w4 ⟨rfl, hx⟩; replace hw := hw.trans (bareN hx rfl rfl rfl rfl); replace hb1 := hb1.ext (bareN hx rfl rfl rfl rfl); replace hb3 := hb3.ext (bareN hx rfl rfl rfl rfl); clear hx))
        | (go_at_call 56; go_must (refine (sin_c _ _).mono ?_; rintro e w4 ⟨rfl, hx⟩; replace hw := hw.trans (bareN hx rfl rfl rfl rfl); replace hb1 := hb1.ext (bareN hx rfl rfl rfl rfl); replace hb3 := hb3.ext (bareN hx rfl rfl rfl rfl); clear hx))
        | (go_at_call 41; go_must (refine (sqrt_c _ _).mono ?_; rintro e w4 ⟨sq, rfl, hsq, hx⟩; replace hw := hw.trans (bareN hx rfl rfl rfl rfl); replace hb1 := hb1.ext (bareN hx rfl rfl rfl rfl); replace hb3 := hb3.ext (bareN hx rfl rfl rfl rfl); clear hx))
        | (go_at_call 55; go_must (refine (angle_c _ _ _).mono ?_; rintro e w4 ⟨rfl, hx⟩; replace hw := hw.trans (bareN hx rfl rfl rfl rfl); replace hb1 := hb1.ext (bareN hx rfl rfl rfl rfl); replace hb3 := hb3.ext (bareN hx rfl rfl rfl rfl); clear hx))
        | (with_reducible refine upon_fl rfl ?_; intro r n hr))
      have hR0 : Hid (unP (can r) = TT) := Lib.hid (by rw [DT.out]; simp only [*, fbin])
      have WN := two_norm mid (angleP KK0 (can (cosP WW))).1
      have HLON := Lib.hid DL.out
      clear hr hsq
      generalize (angleP KK0 (can (cosP WW))).1 = AP at *
      refine wp_region_head 13 (fun g args v => (g = 57 ∧ SpI normP args v) ∨ (g = 31 ∧ SpI signP args v) ∨ (g = 59 ∧ SpUn args v) ∨ (g = 58 ∧ v = .int .i64 rr)) (by kernel_rfl) (by kernel_rfl) ?_
      simp only [List.take_succ_cons, List.take_zero, List.drop_succ_cons, List.drop_zero]
      repeat (first
        | (refine wpR_op rfl (fun w9 hw9 K hK => ?_); have k3 := (hb1.ext (bareN hw9 rfl rfl rfl rfl)).cell; go_simp; refine hK _ ?_; clear hK K k3 hw9 w9)
        | (refine wpR_op rfl (fun w9 hw9 K hK => ?_); go_simp; refine rel_call (call_same (norm_c _ _)) (fun v => ?_) (fun v hv => ?_); (simp [spI_iff]); subst hv; refine hK _ ?_; clear hK K hw9 w9)
        | (refine wpR_op rfl (fun w9 hw9 K hK => ?_); go_simp; refine rel_call (ExR.call (signed_c _ _)) (fun v => ?_) (fun v hv => ?_); (simp [spI_iff]); subst hv; refine hK _ ?_; clear hK K hw9 w9)
        | (refine wpR_op rfl (fun w9 hw9 K hK => ?_); go_simp; refine rel_call (FlR.call (unsinh_c _ _)) (fun v => ?_) (fun v hv => ?_); (simp [spUn_iff]); obtain ⟨un, rfl, hun⟩ := hv; refine hK _ ?_; clear hK K hw9 w9)
        | (refine wpR_op rfl (fun w9 hw9 K hK => ?_); go_simp; refine rel_call (ExR.call (lat_c a f un rr _ (by rw [hun, hR0.out]; exact HI.out))) (fun v => ?_) (fun v hv => ?_); (simp); subst hv; refine hK _ ?_; clear hK K hw9 w9))
      refine wpR_nil ?_
      intro w7 hx8 _
      replace hw := hw.trans (bareN hx8 rfl rfl rfl rfl)
      replace hb3 := hb3.ext (bareN hx8 rfl rfl rfl rfl)
      clear hx8 hb1
      go_wp2_with (first
        | (refine wpList_own rfl 23 _ _ rfl _ _ rfl rfl _ _ hb3 (by kernel_rfl) rfl (by simp [Value.oneCell']) ?_; go_must (intro u bn en sn; replace hw := en w (by repeat (first | exact hw | refine Ext.drewN ?_ _)) (by omega); have kc := bn.cell; clear sn en hb3)))
      exact bodyPost_ret (v := .tuple #[placeU (signP (normP mid + signP AP)) rr, .nilIface]) (by simp [results, Tryz.results26, go_sem, kc]) rfl ⟨by rw [HLON.out], hw⟩
end Go.Proofs.YtcppgbhjbmfldaaGreatDoor

/- Walks: of which place a point of a strip is: the reference's. Printed by gen_offstrip.py. -/
namespace Go.Proofs.YtcppgbhjbmfldaaGreatDoor
open Go.RowKit Go.Fp Go.Rel
set_option maxRecDepth 20000

set_option maxHeartbeats 4000000 in
theorem soff_shape (a f : Nat) (mid : Int) (sc x y : Nat) (w : World) (hk : strP (okG a f) sc = 3) :
    Calls Tryz.prog 27 #[stripV a f mid sc, flatU x y] w (ExR (.tuple #[placeU 0 0, .int .i64 3]) w) := by
  have HC := Lib.hid (stripError_c a f mid sc)
  rw [hk] at HC
  clear hk
  go_enter Tryz.func27, Tryz.ntmps27
  go_wp2_with (first
    | (go_at_call 38; go_must (refine (HC.out _).mono ?_; rintro e w1 ⟨rfl, hx⟩; obtain ⟨hb1, hb2, hb3, hw⟩ := ext3 hx; clear hx))
    | (refine wpList_own rfl 23 _ _ rfl _ _ rfl rfl _ _ hb3 (by kernel_rfl) rfl (by simp [Value.oneCell']) ?_; go_must (intro u bn en sn; replace hw := en w (by repeat (first | exact hw | refine Ext.drewN ?_ _)) (by omega); have kc := bn.cell; clear sn en hb3)))
  exact bodyPost_ret (v := .tuple #[placeU 0 0, .int .i64 3]) (by simp [results, Tryz.results27, go_sem, kc]) rfl ⟨rfl, hw⟩

set_option maxHeartbeats 16000000 in
theorem soff_out (a f : Nat) (mid : Int) (sc x y : Nat) (w : World) (hk : strP (okG a f) sc = 0) (hi : inS (rS a f sc) x y = false) :
    Calls Tryz.prog 27 #[stripV a f mid sc, flatU x y] w (ExR (.tuple #[placeU 0 0, .int .i64 4]) w) := by
  have HC := Lib.hid (stripError_c a f mid sc)
  have HN := Lib.hid (fun w => numbersOf_c a f w (strP_ok hk).1)
  rw [hk] at HC
  have HRS := Lib.hid (show rS a f sc = fmul (radS a f) (can sc) from rfl)
  have B10 : ∀ r, can r = rS a f sc → ∀ w, Calls Tryz.prog 60 #[.float .f64 x, .float .f64 (Op.negFloat .f64 r), .float .f64 r] w (ExR (.bool (inX1 (rS a f sc) x && inX2 (rS a f sc) x)) w) := fun r h w => by
    have := between_c x (Op.negFloat .f64 r) r w
    rwa [btwX x h] at this
  have B20 : ∀ r q1 q2, can r = rS a f sc → can q1 = fbin BinOp.mul (can k16) (can r) → can q2 = fbin BinOp.mul (can k16) (can r) → ∀ w, Calls Tryz.prog 60 #[.float .f64 y, .float .f64 (Op.negFloat .f64 q1), .float .f64 q2] w (ExR (.bool (inY1 (rS a f sc) y && inY2 (rS a f sc) y)) w) := fun r q1 q2 h h1 h2 w => by
    have := between_c y (Op.negFloat .f64 q1) q2 w
    rwa [btwY y h h1 h2] at this
  have tk1 : Hid True := trivial
  have tk2 : Hid True := trivial
  have tk3 : Hid True := trivial
  have tkB : Hid True := trivial
  unfold inS at hi
  clear hk
  generalize rS a f sc = R at *
  generalize (inX1 R x && inX2 R x) = bX at *
  generalize (inY1 R y && inY2 R y) = bY at *
  have B1 := Lib.hid B10
  have B2 := Lib.hid B20
  clear B10 B20
  have hq : bX = false ∨ bX = true ∧ bY = false := by cases bX <;> cases bY <;> simp_all
  clear hi
  rcases hq with rfl | ⟨rfl, rfl⟩
  all_goals
    go_enter Tryz.func27, Tryz.ntmps27
    go_wp2_with (first
      | (go_at_call 38; go_must (refine (HC.out _).mono ?_; rintro e w1 ⟨rfl, hx⟩; obtain ⟨hb1, hb2, hb3, hw⟩ := ext3 hx; clear hx; have cc := And.intro hb1.cell hb2.cell))
      | (go_at_call 45; go_must (refine (HN.out _).mono ?_; rintro e w2 ⟨r', ga, ca, gb, cb, y0, y1, y2, y3, z0, z1, z2, z3, rfl, hr', _, hB', _, hfb, hx⟩; replace hw := hw.trans hx; replace hb1 := hb1.ext hx; replace hb2 := hb2.ext hx; replace hb3 := hb3.ext hx; have sz3 := hb3.lt; have hgb := hfb.lt; have HR0 := Lib.hid hr'; have HBB := Lib.hid hB'; clear hx hr' hB' cc; have k1F : ∀ o i, (w2.alloc o).cell? ⟨w.heap.size, i, none⟩ = #[Value.float .f64 a, Value.float .f64 f, Value.int .i64 mid, Value.float .f64 sc][i]? := (fun o i => (hb1.ext ((Ext.refl w2).alloc o)).cell i); have k2F : ∀ o i, (w2.alloc o).cell? ⟨w.heap.size + 1, i, none⟩ = #[Value.float .f64 x, Value.float .f64 y][i]? := (fun o i => (hb2.ext ((Ext.refl w2).alloc o)).cell i)))
      | (clear tk1; (with_reducible refine upon_fl rfl ?_); go_must (intro r nr hr; have hr1 : can r = R := (by rw [HRS.out, hr, HR0.out]; rfl); have HR' := Lib.hid hr1; clear hr hr1))
      | (go_at_call 60; clear tkB; go_must (refine (B1.out r HR'.out _).mono ?_; rintro e w3 ⟨rfl, hx⟩; have hx' : Ext (w2.alloc (.cells #[.float .f64 r', .slice (some ⟨ga, 0, none⟩) 4 ca, .slice (some ⟨gb, 0, none⟩) 4 cb] 95)) w3 := bareN hx rfl rfl rfl rfl; obtain ⟨hbN, e3⟩ := ext1 hx'; replace hw := hw.trans e3; replace hb1 := hb1.ext e3; replace hb2 := hb2.ext e3; replace hb3 := hb3.ext e3; replace hfb := hfb.ext e3; clear hx hx' e3 k1F k2F; have cc := And.intro hb1.cell (And.intro hb2.cell (hbN.cell))))
      | (clear tk2; (with_reducible refine upon_fl rfl ?_); go_must (intro q1 nq1 hq1; have HQ1 := Lib.hid hq1; clear hq1))
      | (clear tk3; (with_reducible refine upon_fl rfl ?_); go_must (intro q2 nq2 hq2; have HQ2 := Lib.hid hq2; clear hq2))
      | (go_at_call 60; go_must (refine (B2.out r q1 q2 HR'.out HQ1.out HQ2.out _).mono ?_; rintro e w4 ⟨rfl, hx⟩; replace hw := hw.trans (bareN hx rfl rfl rfl rfl); replace hb1 := hb1.ext (bareN hx rfl rfl rfl rfl); replace hb2 := hb2.ext (bareN hx rfl rfl rfl rfl); replace hb3 := hb3.ext (bareN hx rfl rfl rfl rfl); replace hbN := hbN.ext (bareN hx rfl rfl rfl rfl); replace hfb := hfb.ext (bareN hx rfl rfl rfl rfl); clear hx cc; have cc := And.intro hb1.cell (And.intro hb2.cell (hbN.cell))))
      | (refine wpList_own rfl 23 _ _ rfl _ _ rfl rfl _ _ hb3 (by kernel_rfl) rfl (by simp [Value.oneCell']) ?_; go_must (intro u bn en sn; replace hw := en w (by repeat (first | exact hw | refine Ext.drewN ?_ _)) (by omega); have kc := bn.cell; clear sn en hb3)))
    exact bodyPost_ret (v := .tuple #[placeU 0 0, .int .i64 4]) (by simp [results, Tryz.results27, go_sem, kc]) rfl ⟨rfl, hw⟩

set_option maxHeartbeats 16000000 in
theorem soff_ok (a f : Nat) (mid : Int) (sc x y : Nat) (rr : Int) (w : World) (hk : strP (okG a f) sc = 0) (hi : inS (rS a f sc) x y = true) (hI : LatOk (isoP f) (fT a f sc x y) rr) :
    Calls Tryz.prog 27 #[stripV a f mid sc, flatU x y] w (ExR (.tuple #[placeU (fLon a f sc mid x y) rr, .int .i64 0]) w) := by
  have HC := Lib.hid (stripError_c a f mid sc)
  have HN := Lib.hid (fun w => numbersOf_c a f w (strP_ok hk).1)
  rw [hk] at HC
  have HRS := Lib.hid (show rS a f sc = fmul (radS a f) (can sc) from rfl)
  have B10 : ∀ r, can r = rS a f sc → ∀ w, Calls Tryz.prog 60 #[.float .f64 x, .float .f64 (Op.negFloat .f64 r), .float .f64 r] w (ExR (.bool (inX1 (rS a f sc) x && inX2 (rS a f sc) x)) w) := fun r h w => by
    have := between_c x (Op.negFloat .f64 r) r w
    rwa [btwX x h] at this
  have B20 : ∀ r q1 q2, can r = rS a f sc → can q1 = fbin BinOp.mul (can k16) (can r) → can q2 = fbin BinOp.mul (can k16) (can r) → ∀ w, Calls Tryz.prog 60 #[.float .f64 y, .float .f64 (Op.negFloat .f64 q1), .float .f64 q2] w (ExR (.bool (inY1 (rS a f sc) y && inY2 (rS a f sc) y)) w) := fun r q1 q2 h h1 h2 w => by
    have := between_c y (Op.negFloat .f64 q1) q2 w
    rwa [btwY y h h1 h2] at this
  have tk1 : Hid True := trivial
  have tk2 : Hid True := trivial
  have tk3 : Hid True := trivial
  have tkB : Hid True := trivial
  unfold inS at hi
  rw [Bool.and_eq_true] at hi
  obtain ⟨i1, i2⟩ := hi
  rw [i1] at B10
  rw [i2] at B20
  have HI := Lib.hid hI
  have DW := Lib.hid (show fW a f sc x y = nearP (fZr a f sc x y) from rfl)
  have DK := Lib.hid (show fK a f sc x y = hypK (expP (fZi a f sc x y)) from rfl)
  have DL := Lib.hid (show fLon a f sc mid x y = signP (normP mid + signP (angleP (fK a f sc x y) (can (cosP (fW a f sc x y)))).1) from rfl)
  have DT := Lib.hid (show fT a f sc x y = unP (fdiv (can (sinP (fW a f sc x y))) (fsqrt (fadd (fmul (fK a f sc x y) (fK a f sc x y)) (fmul (can (cosP (fW a f sc x y))) (can (cosP (fW a f sc x y))))))) from rfl)
  have DZr := Lib.hid (show fZr a f sc x y = bRe f (nearP (fdiv (can y) (rS a f sc))) (fdiv (can x) (rS a f sc)) (fdiv (can y) (rS a f sc)) 4 from rfl)
  have DZi := Lib.hid (show fZi a f sc x y = bIm f (nearP (fdiv (can y) (rS a f sc))) (fdiv (can x) (rS a f sc)) (fdiv (can x) (rS a f sc)) 4 from rfl)
  clear hk hI i1 i2
  generalize fLon a f sc mid x y = LON at *
  generalize fT a f sc x y = TT at *
  generalize fK a f sc x y = KK0 at *
  generalize fW a f sc x y = WW at *
  generalize fZr a f sc x y = ZR at *
  generalize fZi a f sc x y = ZI at *
  generalize rS a f sc = R at *
  have B1 := Lib.hid B10
  have B2 := Lib.hid B20
  clear B10 B20
  have tk4 : Hid True := trivial
  go_enter Tryz.func27, Tryz.ntmps27
  go_wp2_with (first
    | (go_at_call 38; go_must (refine (HC.out _).mono ?_; rintro e w1 ⟨rfl, hx⟩; obtain ⟨hb1, hb2, hb3, hw⟩ := ext3 hx; clear hx; have cc := And.intro hb1.cell hb2.cell))
    | (go_at_call 45; go_must (refine (HN.out _).mono ?_; rintro e w2 ⟨r', ga, ca, gb, cb, y0, y1, y2, y3, z0, z1, z2, z3, rfl, hr', _, hB', _, hfb, hx⟩; replace hw := hw.trans hx; replace hb1 := hb1.ext hx; replace hb2 := hb2.ext hx; replace hb3 := hb3.ext hx; have sz3 := hb3.lt; have hgb := hfb.lt; have HR0 := Lib.hid hr'; have HBB := Lib.hid hB'; clear hx hr' hB' cc; have k1F : ∀ o i, (w2.alloc o).cell? ⟨w.heap.size, i, none⟩ = #[Value.float .f64 a, Value.float .f64 f, Value.int .i64 mid, Value.float .f64 sc][i]? := (fun o i => (hb1.ext ((Ext.refl w2).alloc o)).cell i); have k2F : ∀ o i, (w2.alloc o).cell? ⟨w.heap.size + 1, i, none⟩ = #[Value.float .f64 x, Value.float .f64 y][i]? := (fun o i => (hb2.ext ((Ext.refl w2).alloc o)).cell i)))
    | (clear tk1; (with_reducible refine upon_fl rfl ?_); go_must (intro r nr hr; have hr1 : can r = R := (by rw [HRS.out, hr, HR0.out]; rfl); have HR' := Lib.hid hr1; clear hr hr1))
    | (go_at_call 60; clear tkB; go_must (refine (B1.out r HR'.out _).mono ?_; rintro e w3 ⟨rfl, hx⟩; have hx' : Ext (w2.alloc (.cells #[.float .f64 r', .slice (some ⟨ga, 0, none⟩) 4 ca, .slice (some ⟨gb, 0, none⟩) 4 cb] 95)) w3 := bareN hx rfl rfl rfl rfl; obtain ⟨hbN, e3⟩ := ext1 hx'; replace hw := hw.trans e3; replace hb1 := hb1.ext e3; replace hb2 := hb2.ext e3; replace hb3 := hb3.ext e3; replace hfb := hfb.ext e3; clear hx hx' e3 k1F k2F; have cc := And.intro hb1.cell (And.intro hb2.cell (hbN.cell))))
    | (clear tk2; (with_reducible refine upon_fl rfl ?_); go_must (intro q1 nq1 hq1; have HQ1 := Lib.hid hq1; clear hq1))
    | (clear tk3; (with_reducible refine upon_fl rfl ?_); go_must (intro q2 nq2 hq2; have HQ2 := Lib.hid hq2; clear hq2))
    | (go_at_call 60; go_must (refine (B2.out r q1 q2 HR'.out HQ1.out HQ2.out _).mono ?_; rintro e w4 ⟨rfl, hx⟩; replace hw := hw.trans (bareN hx rfl rfl rfl rfl); replace hb1 := hb1.ext (bareN hx rfl rfl rfl rfl); replace hb2 := hb2.ext (bareN hx rfl rfl rfl rfl); replace hb3 := hb3.ext (bareN hx rfl rfl rfl rfl); replace hbN := hbN.ext (bareN hx rfl rfl rfl rfl); replace hfb := hfb.ext (bareN hx rfl rfl rfl rfl); clear hx cc; have cc := And.intro hb1.cell (And.intro hb2.cell (hbN.cell))))
    | (clear tk4; (with_reducible refine upon_fl rfl ?_); go_must (intro zz0 nz0 hz0; have HZ0 : Hid (can zz0 = fdiv (can y) R) := Lib.hid (by rw [hz0, HR'.out]; rfl); clear hz0))
    | ((with_reducible refine upon_fl rfl ?_); go_must (intro zz1 nz1 hz1; have HZ1 : Hid (can zz1 = fdiv (can x) R) := Lib.hid (by rw [hz1, HR'.out]; rfl); clear hz1))
    | (go_at_call 61; go_must (refine (nearestTo_c _ _).mono ?_; rintro e w5 ⟨rfl, hx⟩; have hx' : Ext (w4.alloc (.cells #[.float .f64 zz0, .float .f64 zz1] 98)) w5 := bareN hx rfl rfl rfl rfl; obtain ⟨hbZ, e3⟩ := ext1 hx'; have szN := hbN.lt; replace hw := hw.trans e3; replace hb1 := hb1.ext e3; replace hb3 := hb3.ext e3; have sz5 : w.heap.size + 1 + 1 < w4.heap.size := (by have := hb2.lt; have := hfb.lt; omega); replace hfb := hfb.ext e3; replace hbN := hbN.ext e3; clear hx hx' e3 cc; have cc := hbZ.cell)))
  obtain ⟨U, hU⟩ : ∃ U, U = nearP (can zz0) := ⟨_, rfl⟩
  rw [← hU]
  have HU : Hid (U = nearP (fdiv (can y) R)) := Lib.hid (by rw [hU, HZ0.out])
  clear hU hb2
  go_wp2_with fail
  go_loopw [14] (fun iv wr => ∃ (k p q : Nat), iv = .int .i64 ((k : Int) + 1) ∧ k ≤ 4 ∧ can p = bRe f U (can zz1) (can zz0) k ∧ can q = bIm f U (can zz1) (can zz1) k ∧ Ext w wr ∧ Blk wr w.heap.size 60 #[.float .f64 a, .float .f64 f, .int .i64 mid, .float .f64 sc] ∧ Blk wr (w.heap.size + 1 + 1) 23 #[.int .i64 0, .int .i64 0] ∧ Blk wr w2.heap.size 95 #[.float .f64 r', .slice (some ⟨ga, 0, none⟩) 4 ca, .slice (some ⟨gb, 0, none⟩) 4 cb] ∧ Fl4 wr gb z0 z1 z2 z3 ∧ Blk wr w4.heap.size 98 #[.float .f64 p, .float .f64 q]) (fun iv _ => 5 - (RowKit.intOf iv).toNat)
  case atStart => exact ⟨0, _, _, rfl, by omega, rfl, rfl, hw, hb1, hb3, hbN, hfb, hbZ⟩
  case round =>
    clear hw hb1 hb3 hbN hfb hbZ cc
    obtain ⟨k, p, q, rfl, hk, hp, hq, hw, hb1, hb3, hbN, hfb, hbZ⟩ := hrel
    have HX := Lib.hid hp
    have HY := Lib.hid hq
    clear hp hq
    have tkS : Hid True := trivial
    rcases Nat.lt_or_ge k 4 with hlt | hge
    · obtain ⟨J, hJ⟩ : ∃ J : Int, J = (k : Int) + 1 := ⟨_, rfl⟩
      obtain ⟨J2, hJ2⟩ : ∃ J2 : Int, J2 = 2 * J := ⟨_, rfl⟩
      obtain ⟨M, hM⟩ : ∃ M : Int, M = mW k U := ⟨_, rfl⟩
      have WA : IntKind.i64.wrap (J + 1) = J + 1 := IntWalk.i64_in _ ⟨by omega, by omega⟩
      have WB : IntKind.i64.wrap (2 * J) = J2 := by rw [hJ2]; exact IntWalk.i64_in _ ⟨by omega, by omega⟩
      have WC : IntKind.i64.wrap (J2 * U) = M := by rw [hM, hJ2, hJ]; rfl
      have K1 : (k : Int) < 4 := by omega
      have K2 : J ≤ 4 := by omega
      have WD : IntKind.i64.wrap (J - 1) = (k : Int) := by rw [hJ]; rw [IntWalk.i64_in _ ⟨by omega, by omega⟩]; omega
      obtain ⟨ub, hub, FB⟩ := fl4_pick (g := gb) HBB.out k hlt
      rw [← hJ]
      have HM := Lib.hid hM
      have HJ0 := Lib.hid hJ
      have HJ : Hid (J2 = 2 * ((k : Int) + 1)) := Lib.hid (by rw [hJ2, hJ])
      clear hM hJ hJ2
      go_wp2_with (first
        | (go_at_call 46; go_must (refine (sineOf_c _ _ _).mono ?_; rintro e w6 ⟨pa, pb, pc, pd, rfl, hpa, hpb, hpc, hpd, hx⟩; have hx' : Ext wr w6 := bareN hx rfl rfl rfl rfl; have e2 := (((hx'.alloc (.cells #[.float .f64 pa, .float .f64 pb] 98)).alloc (.cells #[.float .f64 pc, .float .f64 pd] 98))); have hbX := (Blk.new w6 #[.float .f64 pa, .float .f64 pb] 98).ext ((Ext.refl _).alloc (.cells #[.float .f64 pc, .float .f64 pd] 98)); replace hw := hw.trans e2; replace hb1 := hb1.ext e2; replace hb3 := hb3.ext e2; replace hbN := hbN.ext e2; replace hfb := hfb.ext e2; replace hbZ := hbZ.ext e2; clear hx hx'))
        | (with_reducible refine upon_fl rfl ?_; intro rv nv hrv))
      refine wp_region_head 10 (fun g args v => g = 47 ∧ SpPP args v) (by kernel_rfl) (by kernel_rfl) ?_
      simp only [List.take_succ_cons, List.take_zero, List.drop_succ_cons, List.drop_zero]
      repeat (first
        | (refine wpR_op rfl (fun w9 hw9 K hK => ?_); have k2 := (hbZ.ext (bareN hw9 rfl rfl rfl rfl)).cell; have k3 := (hbN.ext (bareN hw9 rfl rfl rfl rfl)).cell; have k4 := FB w9 (hfb.ext (bareN hw9 rfl rfl rfl rfl)); have k5 := (hbX.ext (bareN hw9 rfl rfl rfl rfl)).cell; go_simp; refine hK _ ?_; clear hK K k2 k3 k4 k5 hw9 w9)
        | (refine wpR_op rfl (fun w9 hw9 K hK => ?_); go_simp; refine rel_call (PairR.call (plusP_c _ _ _ _ _ _)) (fun v => ?_) (fun v hv => ?_); (simp [spPP_iff]); obtain ⟨zx, zy, rfl, hzx, hzy⟩ := hv; refine hK _ ?_; clear hK K hw9 w9))
      refine wpR_nil ?_
      intro w8 hx8 _
      replace hw := hw.trans (bareN hx8 rfl rfl rfl rfl)
      replace hb1 := hb1.ext (bareN hx8 rfl rfl rfl rfl)
      replace hb3 := hb3.ext (bareN hx8 rfl rfl rfl rfl)
      replace hbN := hbN.ext (bareN hx8 rfl rfl rfl rfl)
      replace hfb := hfb.ext (bareN hx8 rfl rfl rfl rfl)
      replace hbZ := hbZ.ext (bareN hx8 rfl rfl rfl rfl)
      clear hx8 hbX
      refine wpList_own rfl 98 _ _ rfl _ _ rfl rfl _ _ hbZ (by kernel_rfl) rfl (by simp [Value.oneCell']) ?_
      intro w7 bn en sn
      have szw := hw.size
      replace hw := en w hw (by omega)
      replace hb1 := hb1.same sn (by omega)
      replace hb3 := hb3.same sn (by omega)
      replace hbN := hbN.same sn (by omega)
      replace hfb := hfb.block (sn gb (by omega))
      clear en sn hbZ
      go_wp2_with fail
      go_roundw
      case rel =>
        refine ⟨k + 1, zx, zy, by rw [HJ0.out]; simp, by omega, ?_, ?_, hw, hb1, hb3, hbN, hfb, bn⟩
        · rw [hzx, HX.out, hpa, hrv, neg_can, hub, plus_neg, HM.out, HJ.out]; rfl
        · rw [hzy, HY.out, hpb, hrv, neg_can, hub, plus_neg, HM.out, HJ.out]; rfl
      case measure =>
        have hj := HJ0.out
        simp [RowKit.intOf]; omega
    · have h4 : k = 4 := by omega
      subst h4
      have HZR : Hid (can p = ZR) := Lib.hid (by rw [HX.out, DZr.out, HU.out, HZ0.out, HZ1.out])
      have HZI : Hid (can q = ZI) := Lib.hid (by rw [HY.out, DZi.out, HU.out, HZ1.out])
      clear hbN hfb HX HY HZ0 HZ1 HU DZr DZi
      have HN1 : Hid (∀ w, Calls Tryz.prog 61 #[.float .f64 p] w (ExR (.int .i64 WW) w)) := Lib.hid (fun w => by
        have := nearestTo_c p w
        rwa [HZR.out, ← DW.out] at this)
      have cz := hbZ.cell
      have tkA : Hid True := trivial
      have tkC : Hid True := trivial
      have tkD : Hid True := trivial
      go_wp2_with (first
        | (go_at_call 39; go_must (refine (expOf_c _ _).mono ?_; rintro e w9 ⟨p1, rfl, hp1, hx⟩; rw [← expP_can, HZI.out] at hp1; replace hw := hw.trans (bareN hx rfl rfl rfl rfl); replace hb1 := hb1.ext (bareN hx rfl rfl rfl rfl); replace hb3 := hb3.ext (bareN hx rfl rfl rfl rfl); replace hbZ := hbZ.ext (bareN hx rfl rfl rfl rfl); clear hx cz; have cz := hbZ.cell))
        | (go_at_call 61; go_must (refine (HN1.out _).mono ?_; rintro e w9 ⟨rfl, hx⟩; replace hw := hw.trans (bareN hx rfl rfl rfl rfl); replace hb1 := hb1.ext (bareN hx rfl rfl rfl rfl); replace hb3 := hb3.ext (bareN hx rfl rfl rfl rfl); replace hbZ := hbZ.ext (bareN hx rfl rfl rfl rfl); clear hx cz; have cz := hbZ.cell))
        | (go_at_call 30; go_must (refine (sincos_c _ _).mono ?_; rintro e w' ⟨rfl, rfl⟩))
        | (go_at_call 42; go_must (refine (plus_c _ _ _ _).mono ?_; rintro e w9 ⟨pl, rfl, hpl, hx⟩; replace hw := hw.trans (bareN hx rfl rfl rfl rfl); replace hb1 := hb1.ext (bareN hx rfl rfl rfl rfl); replace hb3 := hb3.ext (bareN hx rfl rfl rfl rfl); replace hbZ := hbZ.ext (bareN hx rfl rfl rfl rfl); clear hx cz; have cz := hbZ.cell))
        | (go_at_call 41; go_must (refine (sqrt_c _ _).mono ?_; rintro e w9 ⟨sq, rfl, hsq, hx⟩; replace hw := hw.trans (bareN hx rfl rfl rfl rfl); replace hb1 := hb1.ext (bareN hx rfl rfl rfl rfl); replace hb3 := hb3.ext (bareN hx rfl rfl rfl rfl); replace hbZ := hbZ.ext (bareN hx rfl rfl rfl rfl); clear hx cz; have cz := hbZ.cell))
        | (go_at_call 43; go_must (refine (refAngle_c _ _ _).mono ?_; rintro e w9 ⟨rfl, hx⟩; replace hw := hw.trans (bareN hx rfl rfl rfl rfl); replace hb1 := hb1.ext (bareN hx rfl rfl rfl rfl); replace hb3 := hb3.ext (bareN hx rfl rfl rfl rfl); replace hbZ := hbZ.ext (bareN hx rfl rfl rfl rfl); clear hx cz; have cz := hbZ.cell))
        | (go_at_call 28; go_must (refine (signedAngle_c _ _).mono ?_; rintro e w9 ⟨rfl, hx⟩; replace hw := hw.trans (bareN hx rfl rfl rfl rfl); replace hb1 := hb1.ext (bareN hx rfl rfl rfl rfl); replace hb3 := hb3.ext (bareN hx rfl rfl rfl rfl); replace hbZ := hbZ.ext (bareN hx rfl rfl rfl rfl); clear hx cz; have cz := hbZ.cell))
        | (clear tkA; with_reducible refine upon_fl rfl ?_; intro rA nA hrA)
        | (clear tkC; with_reducible refine upon_fl rfl ?_; intro rB nB hrB)
        | (clear tkD; (with_reducible refine upon_fl rfl ?_); go_must (intro kk nK hkk; have hk0 : can kk = KK0 := (by rw [hkk, hrB, hrA, hp1, DK.out]; rfl); clear hkk hrA hrB hp1))
        | (with_reducible refine upon_fl rfl ?_; intro r9 n9 hr9))
      have WN := two_norm mid (angleP KK0 (can (cosP WW))).1
      have HLON := Lib.hid DL.out
      have HTT : Hid (∀ r, can r = fbin BinOp.quo (can (sinP WW)) (can sq) → unP (can r) = TT) := Lib.hid (fun r h => by rw [DT.out, h]; simp only [*, fbin])
      clear hr9 hpl hsq hk0
      generalize (angleP KK0 (can (cosP WW))).1 = AP at *
      clear cz hbZ
      refine wp_region_head 14 (fun g args v => (g = 29 ∧ SpI normP args v) ∨ (g = 28 ∧ SpI signP args v) ∨ (g = 44 ∧ SpUn args v) ∨ (g = 62 ∧ v = .int .i64 rr)) (by kernel_rfl) (by kernel_rfl) ?_
      simp only [List.take_succ_cons, List.take_zero, List.drop_succ_cons, List.drop_zero]
      repeat (first
        | (refine wpR_op rfl (fun w9 hw9 K hK => ?_); have k3 := (hb1.ext (bareN hw9 rfl rfl rfl rfl)).cell; go_simp; refine hK _ ?_; clear hK K k3 hw9 w9)
        | (refine wpR_op rfl (fun w9 hw9 K hK => ?_); go_simp; refine rel_fl rfl ?_; intro rq hrq; have hrq' := Lib.hid (HTT.out rq hrq); clear hrq; refine hK _ ?_; clear hK K hw9 w9)
        | (refine wpR_op rfl (fun w9 hw9 K hK => ?_); go_simp; refine rel_call (call_same (normOf_c _ _)) (fun v => ?_) (fun v hv => ?_); (simp [spI_iff]); subst hv; refine hK _ ?_; clear hK K hw9 w9)
        | (refine wpR_op rfl (fun w9 hw9 K hK => ?_); go_simp; refine rel_call (ExR.call (signedAngle_c _ _)) (fun v => ?_) (fun v hv => ?_); (simp [spI_iff]); subst hv; refine hK _ ?_; clear hK K hw9 w9)
        | (refine wpR_op rfl (fun w9 hw9 K hK => ?_); go_simp; refine rel_call (FlR.call (sinhBack_c _ _)) (fun v => ?_) (fun v hv => ?_); (simp [spUn_iff]); obtain ⟨un, rfl, hun⟩ := hv; refine hK _ ?_; clear hK K hw9 w9)
        | (refine wpR_op rfl (fun w9 hw9 K hK => ?_); go_simp; refine rel_call (ExR.call (latOf_c a f un rr _ (by rw [hun, hrq'.out]; exact HI.out))) (fun v => ?_) (fun v hv => ?_); (simp); subst hv; refine hK _ ?_; clear hK K hw9 w9))
      refine wpR_nil ?_
      intro w7 hx8 _
      replace hw := hw.trans (bareN hx8 rfl rfl rfl rfl)
      replace hb3 := hb3.ext (bareN hx8 rfl rfl rfl rfl)
      clear hx8 hb1
      go_wp2_with (first
        | (refine wpList_own rfl 23 _ _ rfl _ _ rfl rfl _ _ hb3 (by kernel_rfl) rfl (by simp [Value.oneCell']) ?_; go_must (intro u bn en sn; replace hw := en w (by repeat (first | exact hw | refine Ext.drewN ?_ _)) (by omega); have kc := bn.cell; clear sn en hb3)))
      exact bodyPost_ret (v := .tuple #[placeU (signP (normP mid + signP AP)) rr, .int .i64 0]) (by simp [results, Tryz.results27, go_sem, kc]) rfl ⟨by rw [HLON.out], hw⟩

/-- what both answer, whatever the strip and the point -/
theorem from_offS (a f : Nat) (mid : Int) (sc x y : Nat) : ∃ (K lon lat : Int), (∀ (A : Nat → Addr) (w : World), World8 A w → Calls Tryz.prog 26 #[stripV a f mid sc, flatU x y] w (fun e w' => ∃ v, e = .returned (.tuple #[placeU lon lat, v]) ∧ ErrOf A K v ∧ Ext w w')) ∧
    (∀ w, Calls Tryz.prog 27 #[stripV a f mid sc, flatU x y] w (ExR (.tuple #[placeU lon lat, .int .i64 K]) w)) := by
  rcases strP_cases (okG a f) sc with hk | hk
  · cases hi : inS (rS a f sc) x y with
    | false => exact ⟨4, 0, 0, fun A w h8 => (sfrom_out a f mid sc x y w h8 hk hi).mono (fun _ _ ⟨he, hx⟩ => ⟨_, he, .range, hx⟩), fun w => soff_out a f mid sc x y w hk hi⟩
    | true =>
      obtain ⟨r, hr⟩ := lat_some (isoP f) (fT a f sc x y) _ (-89000000000) 89000000001 (Nat.le_refl _)
      exact ⟨0, _, r, fun A w h8 => (sfrom_ok a f mid sc x y r w h8 hk hi hr).mono (fun _ _ ⟨he, hx⟩ => ⟨_, he, .nil, hx⟩), fun w => soff_ok a f mid sc x y r w hk hi hr⟩
  · exact ⟨3, 0, 0, fun A w h8 => (sfrom_shape a f mid sc x y w h8 hk).mono (fun _ _ ⟨he, hx⟩ => ⟨_, he, .shape, hx⟩), fun w => soff_shape a f mid sc x y w hk⟩
end Go.Proofs.YtcppgbhjbmfldaaGreatDoor

/- Walks: of which place a reference is: package grid's Place and the reference's PlaceAt. -/
namespace Go.Proofs.YtcppgbhjbmfldaaGreatDoor
open Go.RowKit Go.Fp Go.Rel
set_option maxRecDepth 20000

/-- the point of a reference -/
def pX (e : Int) : Nat := floatOfInt .f64 (e - 500000)
def pY (s : Bool) (n : Int) : Nat := if s then floatOfInt .f64 (n - 10000000) else floatOfInt .f64 n
set_option maxHeartbeats 4000000 in
theorem gplace_bad {A : Nat → Addr} (z : Int) (s : Bool) (e n : Int) (h : ¬ OkRef z e n) (w : World) (h8 : World8 A w) : Calls Tryz.prog 9 #[refV z s e n] w (ExR (.tuple #[placeU 0 0, errV (A 0)]) w) := by
  have HV := Lib.hid (fun w h8 => refValid_bad (A := A) z s e n h w h8)
  clear h
  go_enter Tryz.func9, Tryz.ntmps9
  go_wp2_with (first
    | (go_at_call 18; go_must (refine (HV.out _ (h8.ext (by repeat (first | exact Ext.refl _ | refine Ext.alloc ?_ _)))).mono ?_; rintro e w1 ⟨rfl, hx⟩; obtain ⟨hb1, hb2, hw⟩ := ext2 hx; clear hx; have c2 := hb2.cell; have f2 := hb2.frozen)))
  obtain ⟨hx, _, k2⟩ := fin_two (u := .int .i64 0) (v := .int .i64 0) (l := []) hw trivial hb2 (by simp) (by omega)
  have kc := k2.cell
  exact bodyPost_ret (v := .tuple #[placeU 0 0, errV (A 0)]) (by simp [results, Tryz.results9, go_sem, kc]) rfl ⟨rfl, hx⟩
set_option maxHeartbeats 4000000 in
theorem placeAt_bad (z : Int) (s : Bool) (e n : Int) (h : ¬ OkRef z e n) (w : World) : Calls Tryz.prog 10 #[refV z s e n] w (ExR (.tuple #[placeU 0 0, .int .i64 4]) w) := by
  have HV := Lib.hid (fun w => refError_bad z s e n h w)
  clear h
  go_enter Tryz.func10, Tryz.ntmps10
  go_wp2_with (first
    | (go_at_call 24; go_must (refine (HV.out _).mono ?_; rintro e w1 ⟨rfl, hx⟩; obtain ⟨hb1, hb2, hw⟩ := ext2 hx; clear hx; have c2 := hb2.cell; have f2 := hb2.frozen)))
  obtain ⟨hx, _, k2⟩ := fin_two (u := .int .i64 0) (v := .int .i64 0) (l := []) hw trivial hb2 (by simp) (by omega)
  have kc := k2.cell
  exact bodyPost_ret (v := .tuple #[placeU 0 0, .int .i64 4]) (by simp [results, Tryz.results10, go_sem, kc]) rfl ⟨rfl, hx⟩
end Go.Proofs.YtcppgbhjbmfldaaGreatDoor
