/- Walks: of which place a point of paper is: the reference's. -/
import Derived.Test.YtopedblojfnlnaaGreatDoorZ8
namespace Go.Proofs.YtopedblojfnlnaaGreatDoor
open Go.RowKit Go.Fp Go.Rel
set_option maxRecDepth 20000

def FTO (L r : Int) (g : FuncId) (args : Array Value) (v : Value) : Prop := FT g args v ∨ (g = 29 ∧ v = .int .i64 r) ∨ (g = 51 ∧ v = .int .i64 L)
theorem fto_r (L r : Int) (args : Array Value) (v : Value) : FTO L r 29 args v ↔ v = .int .i64 r := by
  unfold FTO FT FU
  simp
theorem fto_a (L r : Int) (args : Array Value) (v : Value) : FTO L r 51 args v ↔ v = .int .i64 L := by
  unfold FTO FT FU
  simp
set_option maxHeartbeats 8000000 in
theorem off_bad {s : ByteArray} {n : Nat} (h : KindIs s n) (a f : Nat) (mid : Int) (sc x y : Nat) (w : World) (hk : 0 < papP (okG a f) n sc) :
    Calls Tryz.prog 23 #[paperV a f s mid sc, flatV x y] w (ExR (.tuple #[placeW 0 0, .int .i64 (papP (okG a f) n sc)]) w) := by
  have HPE := Lib.hid (fun (w : World) => paperError_c h a f mid sc w)
  generalize papP (okG a f) n sc = k at *
  clear h
  go_enter Tryz.func23, Tryz.ntmps23
  go_wp2_with (first
    | (go_at_call 67; go_must (refine (HPE.out _).mono ?_; rintro e w1 ⟨rfl, hx⟩; obtain ⟨hb1, hb2, hb3, hw⟩ := ext3 hx; have c1 := hb1.cell; have c2 := hb2.cell; clear hx))
    | (refine wpList_own rfl 31 _ _ rfl _ _ rfl rfl _ _ hb3 (by kernel_rfl) rfl (by simp [Value.oneCell']) ?_; go_must (intro u bn en sn; replace hw := en w hw (by omega); have kc := bn.cell; clear sn en hb3)))
  exact bodyPost_ret (v := .tuple #[placeW 0 0, .int .i64 k]) (by simp [results, Tryz.results23, go_sem, kc]) rfl ⟨rfl, hw⟩
set_option maxHeartbeats 8000000 in
theorem off_out {s : ByteArray} {n : Nat} (h : KindIs s n) (a f : Nat) (mid : Int) (sc x y : Nat) (w : World) (hk : papP (okG a f) n sc = 0) (ho : (btw x m1e8 c1e8 && btw y m1e8 c1e8) = false) :
    Calls Tryz.prog 23 #[paperV a f s mid sc, flatV x y] w (ExR (.tuple #[placeW 0 0, .int .i64 4]) w) := by
  have HPE := Lib.hid (fun (w : World) => paperError_c h a f mid sc w)
  rw [hk] at HPE
  have HBX := Lib.hid (between_c x m1e8 c1e8)
  have HBY := Lib.hid (between_c y m1e8 c1e8)
  generalize btw x m1e8 c1e8 = bx at *
  generalize btw y m1e8 c1e8 = by' at *
  clear h hk
  have tk1 : Hid True := trivial
  cases bx <;> cases by'
  case true.true => cases ho
  all_goals
    clear ho
    go_enter Tryz.func23, Tryz.ntmps23
    go_wp2_with (first
      | (go_at_call 67; go_must (refine (HPE.out _).mono ?_; rintro e w1 ⟨rfl, hx⟩; obtain ⟨hb1, hb2, hb3, hw⟩ := ext3 hx; have c1 := hb1.cell; have c2 := hb2.cell; clear hx))
      | (go_at_call 43; clear tk1; go_must (refine (HBX.out _).mono ?_; rintro e w2 ⟨rfl, hx⟩; replace hw := hw.trans (bareN hx rfl rfl rfl rfl); replace hb3 := hb3.ext (bareN hx rfl rfl rfl rfl); replace hb2 := hb2.ext (bareN hx rfl rfl rfl rfl); replace hb1 := hb1.ext (bareN hx rfl rfl rfl rfl); clear c1 c2 hx; have c1 := hb1.cell; have c2 := hb2.cell))
      | (go_at_call 43; go_must (refine (HBY.out _).mono ?_; rintro e w2 ⟨rfl, hx⟩; replace hw := hw.trans (bareN hx rfl rfl rfl rfl); replace hb3 := hb3.ext (bareN hx rfl rfl rfl rfl); replace hb2 := hb2.ext (bareN hx rfl rfl rfl rfl); replace hb1 := hb1.ext (bareN hx rfl rfl rfl rfl); clear c1 c2 hx; have c1 := hb1.cell; have c2 := hb2.cell))
      | (refine wpList_own rfl 31 _ _ rfl _ _ rfl rfl _ _ hb3 (by kernel_rfl) rfl (by simp [Value.oneCell']) ?_; go_must (intro u bn en sn; replace hw := en w hw (by omega); have kc := bn.cell; clear sn en hb3)))
    exact bodyPost_ret (v := .tuple #[placeW 0 0, .int .i64 4]) (by simp [results, Tryz.results23, go_sem, kc]) rfl ⟨rfl, hw⟩
set_option maxHeartbeats 8000000 in
theorem off_pol (a f : Nat) (mid : Int) (sc x y : Nat) (r : Int) (w : World) (hk : papP (okG a f) 2 sc = 0) (hx : btw x m1e8 c1e8 = true) (hy : btw y m1e8 c1e8 = true) (hI : LatOk (isoP f) (fromY 2 a f sc x y) r) :
    Calls Tryz.prog 23 #[paperV a f sPol mid sc, flatV x y] w (ExR (.tuple #[placeW (fromLon 2 a sc x y mid) r, .int .i64 0]) w) := by
  have h := KindIs.pol
  have HPE := Lib.hid (fun (w : World) => paperError_c h a f mid sc w)
  rw [hk] at HPE
  have HBX := Lib.hid (between_c x m1e8 c1e8)
  have HBY := Lib.hid (between_c y m1e8 c1e8)
  rw [hx] at HBX
  rw [hy] at HBY
  have tk1 : Hid True := trivial
  obtain ⟨Y, hY⟩ : ∃ Y, Y = fromY 2 a f sc x y := ⟨_, rfl⟩
  rw [← hY] at hI
  have HL : Hid (∀ x', can x' = Y → ∀ w, Calls Tryz.prog 29 #[globeV a f, .float .f64 x'] w (ExR (.int .i64 r) w)) := Lib.hid (fun x' h w => latOf_c a f x' r w (by rw [h]; exact hI))
  have HY := Lib.hid hY
  obtain ⟨L, hL⟩ : ∃ L, L = (angleP (can x) (can (Op.negFloat .f64 y))).1 := ⟨_, rfl⟩
  obtain ⟨M, hM⟩ : ∃ M, M = IntKind.i64.wrap (normP mid + L) := ⟨_, rfl⟩
  have HLon : Hid (fromLon 2 a sc x y mid = signP M) := by
    show fromLon 2 a sc x y mid = signP M
    rw [hM, hL, neg_can]; rfl
  have W1 := hM.symm
  have HA : Hid (∀ w, Calls Tryz.prog 51 #[.float .f64 x, .float .f64 (Op.negFloat .f64 y)] w (ExR (.int .i64 L) w)) := Lib.hid (fun w => by rw [hL]; exact refAngle_c _ _ w)
  clear h hk hx hy hY hI hM hL
  go_enter Tryz.func23, Tryz.ntmps23
  go_wp2_with (first
    | (go_at_call 67; go_must (refine (HPE.out _).mono ?_; rintro e w1 ⟨rfl, hx⟩; obtain ⟨hb1, hb2, hb3, hw⟩ := ext3 hx; have c1 := hb1.cell; have c2 := hb2.cell; clear hx))
    | (go_at_call 43; clear tk1; go_must (refine (HBX.out _).mono ?_; rintro e w2 ⟨rfl, hx⟩; replace hw := hw.trans (bareN hx rfl rfl rfl rfl); replace hb3 := hb3.ext (bareN hx rfl rfl rfl rfl); replace hb2 := hb2.ext (bareN hx rfl rfl rfl rfl); replace hb1 := hb1.ext (bareN hx rfl rfl rfl rfl); clear c1 c2 hx; have c1 := hb1.cell; have c2 := hb2.cell))
    | (go_at_call 43; go_must (refine (HBY.out _).mono ?_; rintro e w2 ⟨rfl, hx⟩; replace hw := hw.trans (bareN hx rfl rfl rfl rfl); replace hb3 := hb3.ext (bareN hx rfl rfl rfl rfl); replace hb2 := hb2.ext (bareN hx rfl rfl rfl rfl); replace hb1 := hb1.ext (bareN hx rfl rfl rfl rfl); clear c1 c2 hx; have c1 := hb1.cell; have c2 := hb2.cell))
    | (go_at_call 52; go_must (refine (normOf_c _ _).mono ?_; rintro e w2 ⟨rfl, rfl⟩))
    | (go_at_call 49; go_must (refine (plus_c _ _ _ _).mono ?_; rintro e w2 ⟨rp, rfl, hrp, hx⟩; replace hw := hw.trans (bareN hx rfl rfl rfl rfl); replace hb3 := hb3.ext (bareN hx rfl rfl rfl rfl); replace hb2 := hb2.ext (bareN hx rfl rfl rfl rfl); replace hb1 := hb1.ext (bareN hx rfl rfl rfl rfl); clear c1 c2 hx; have c1 := hb1.cell; have c2 := hb2.cell))
    | (go_at_call 38; go_must (refine (sqrt_c _ _).mono ?_; rintro e w2 ⟨rq, rfl, hrq, hx⟩; replace hw := hw.trans (bareN hx rfl rfl rfl rfl); replace hb3 := hb3.ext (bareN hx rfl rfl rfl rfl); replace hb2 := hb2.ext (bareN hx rfl rfl rfl rfl); replace hb1 := hb1.ext (bareN hx rfl rfl rfl rfl); clear c1 c2 hx; have c1 := hb1.cell; have c2 := hb2.cell))
    | (go_at_call 68; go_must (refine (poleOf_c a f _).mono ?_; rintro e w2 ⟨ro, rfl, hro, hx⟩; replace hw := hw.trans (bareN hx rfl rfl rfl rfl); replace hb3 := hb3.ext (bareN hx rfl rfl rfl rfl); replace hb2 := hb2.ext (bareN hx rfl rfl rfl rfl); replace hb1 := hb1.ext (bareN hx rfl rfl rfl rfl); clear c1 c2 hx; have c1 := hb1.cell; have c2 := hb2.cell))
    | (with_reducible refine upon_fl rfl ?_; intro r0 n hr))
  clear c1 c2
  refine wp_region_head 16 (FTO L r) (by kernel_rfl) (by kernel_rfl) ?_
  simp only [List.take_succ_cons, List.take_zero, List.drop_succ_cons, List.drop_zero]
  repeat (first
    | (refine wpR_op rfl (fun w9 hw9 K hK => ?_); have k1 := (hb1.ext (bareN hw9 rfl rfl rfl rfl)).cell; have k2 := (hb2.ext (bareN hw9 rfl rfl rfl rfl)).cell; go_simp; refine hK _ ?_; clear hK K k1 k2 hw9 w9)
    | (refine wpR_op rfl (fun w9 hw9 K hK => ?_); go_simp; refine rel_call (ExR.call (HA.out _)) (fun v => ?_) (fun v hv => ?_); (rw [fto_a]); subst hv; refine hK _ ?_; clear hK K hw9 w9)
    | (refine wpR_op rfl (fun w9 hw9 K hK => ?_); go_simp; refine rel_call (ExR.call (signedAngle_c _ _)) (fun v => ?_) (fun v hv => ?_); (simp [FTO, FT, FU, spNorm_iff]); subst hv; refine hK _ ?_; clear hK K hw9 w9)
    | (refine wpR_op rfl (fun w9 hw9 K hK => ?_); go_simp; refine rel_call (FlR.call (lnOfC_c _ _)) (fun v => ?_) (fun v hv => ?_); (simp [FTO, FT, FU, spOne_iff]); obtain ⟨rl, rfl, hrl⟩ := hv; refine hK _ ?_; clear hK K hw9 w9)
    | (refine wpR_op rfl (fun w9 hw9 K hK => ?_); go_simp; refine rel_call (ExR.call (HL.out _ (by rw [HY.out]; simp [fromY, *, fbin, neg_can]) _)) (fun v => ?_) (fun v hv => ?_); (rw [fto_r]); subst hv; refine hK _ ?_; clear hK K hw9 w9)
    | (refine wpR_op rfl (fun w9 hw9 K hK => ?_); go_simp; refine hK _ ?_; clear hK K hw9 w9))
  refine wpR_nil ?_
  intro w8 hx8 _
  replace hw := hw.trans (bareN hx8 rfl rfl rfl rfl)
  replace hb3 := hb3.ext (bareN hx8 rfl rfl rfl rfl)
  clear hb1 hb2 hx8
  go_wp2_with (first | (refine wpList_own rfl 31 _ _ rfl _ _ rfl rfl _ _ hb3 (by kernel_rfl) rfl (by simp [Value.oneCell']) ?_; go_must (intro u bn en sn; replace hw := en w hw (by omega); have kc := bn.cell; clear sn en hb3)))
  refine bodyPost_ret (v := .tuple #[placeW (signP M) r, .int .i64 0]) (by simp [results, Tryz.results23, go_sem, kc]) rfl ⟨by rw [HLon.out], hw⟩
end Go.Proofs.YtopedblojfnlnaaGreatDoor
