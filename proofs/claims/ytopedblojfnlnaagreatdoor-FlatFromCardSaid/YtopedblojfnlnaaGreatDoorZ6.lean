/- Walks: of which place a point of paper is: package flat's, where the point lies on the paper. -/
import Derived.Test.YtopedblojfnlnaaGreatDoorZ4
namespace Go.Proofs.YtopedblojfnlnaaGreatDoor
open Go.RowKit Go.Fp Go.Rel
set_option maxRecDepth 20000

def FTL (r : Int) (g : FuncId) (args : Array Value) (v : Value) : Prop := FT g args v ∨ (g = 28 ∧ v = .int .i64 r)
theorem ftl_r (r : Int) (args : Array Value) (v : Value) : FTL r 28 args v ↔ v = .int .i64 r := by
  unfold FTL FT FU
  simp
set_option maxHeartbeats 8000000 in
theorem from_pol {A : Nat → Addr} (a f : Nat) (mid : Int) (sc x y : Nat) (r : Int) (w : World) (h8 : World8 A w) (hk : papP (okG a f) 2 sc = 0) (hx : btw x m1e8 c1e8 = true) (hy : btw y m1e8 c1e8 = true) (hI : LatOk (isoP f) (fromY 2 a f sc x y) r) :
    Calls Tryz.prog 22 #[paperV a f sPol mid sc, flatV x y] w (FromR A 0 (fromLon 2 a sc x y mid) r w) := by
  have HC := Lib.hid (valid_ok (A := A) KindIs.pol a f mid sc hk)
  obtain ⟨Y, hY⟩ : ∃ Y, Y = fromY 2 a f sc x y := ⟨_, rfl⟩
  rw [← hY] at hI
  have HL : Hid (∀ x', can x' = Y → ∀ w, Calls Tryz.prog 28 #[globeV a f, .float .f64 x'] w (ExR (.int .i64 r) w)) := Lib.hid (fun x' h w => lat_c a f x' r w (by rw [h]; exact hI))
  have HY := Lib.hid hY
  obtain ⟨L, hL⟩ : ∃ L, L = (angleP (can x) (can (Op.negFloat .f64 y))).1 := ⟨_, rfl⟩
  obtain ⟨M, hM⟩ : ∃ M, M = IntKind.i64.wrap (normP mid + L) := ⟨_, rfl⟩
  have HLon : Hid (fromLon 2 a sc x y mid = signP M) := by
    show fromLon 2 a sc x y mid = signP M
    rw [hM, hL, neg_can]; rfl
  have HM := Lib.hid hM
  have HLL := Lib.hid hL
  clear hk hY hI hM hL
  obtain ⟨o1, o2⟩ := btw_yes hx
  obtain ⟨o3, o4⟩ := btw_yes hy
  clear hx hy
  go_enter Tryz.func22, Tryz.ntmps22
  go_wp2_with (first
    | (go_at_call 61; go_must (refine (HC.out _ (h8.ext (by repeat (first | exact Ext.refl _ | refine Ext.alloc ?_ _)))).mono ?_; rintro e w1 ⟨rfl, hx⟩; obtain ⟨hb1, hb2, hb3, hw⟩ := ext3 hx; have c1 := hb1.cell; have c2 := hb2.cell; clear hx))
    | (go_at_call 40; go_must (refine (norm_c _ _).mono ?_; rintro e w2 ⟨rfl, rfl⟩))
    | (go_at_call 38; go_must (refine (sqrt_c _ _).mono ?_; rintro e w2 ⟨rq, rfl, hrq, hx⟩; replace hw := hw.trans (bareN hx rfl rfl rfl rfl); replace hb3 := hb3.ext (bareN hx rfl rfl rfl rfl); replace hb2 := hb2.ext (bareN hx rfl rfl rfl rfl); replace hb1 := hb1.ext (bareN hx rfl rfl rfl rfl); clear c1 c2 hx; have c1 := hb1.cell; have c2 := hb2.cell))
    | (go_at_call 36; go_must (refine (angle_c _ _ _).mono ?_; rintro e w2 ⟨rfl, hx⟩; replace hw := hw.trans (bareN hx rfl rfl rfl rfl); replace hb3 := hb3.ext (bareN hx rfl rfl rfl rfl); replace hb2 := hb2.ext (bareN hx rfl rfl rfl rfl); replace hb1 := hb1.ext (bareN hx rfl rfl rfl rfl); clear c1 c2 hx; have c1 := hb1.cell; have c2 := hb2.cell))
    | (with_reducible refine upon_fl rfl ?_; intro r0 n hr))
  rw [← HLL.out]
  have W1 := HM.out.symm
  clear c1 c2 o1 o2 o3 o4
  refine wp_region_head 18 (FTL r) (by kernel_rfl) (by kernel_rfl) ?_
  simp only [List.take_succ_cons, List.take_zero, List.drop_succ_cons, List.drop_zero]
  repeat (first
    | (refine wpR_op rfl (fun w9 hw9 K hK => ?_); have k1 := (hb1.ext (bareN hw9 rfl rfl rfl rfl)).cell; go_simp; refine hK _ ?_; clear hK K k1 hw9 w9)
    | (refine wpR_op rfl (fun w9 hw9 K hK => ?_); go_simp; refine rel_call (ExR.call (signed_c _ _)) (fun v => ?_) (fun v hv => ?_); (simp [FTL, FT, FU, spNorm_iff]); subst hv; refine hK _ ?_; clear hK K hw9 w9)
    | (refine wpR_op rfl (fun w9 hw9 K hK => ?_); go_simp; refine rel_call (FlR.call (paperA_c a f _ mid sc _)) (fun v => ?_) (fun v hv => ?_); (simp [FTL, FT, FU, spPap_iff]); obtain ⟨ra, rfl, hra⟩ := hv; refine hK _ ?_; clear hK K hw9 w9)
    | (refine wpR_op rfl (fun w9 hw9 K hK => ?_); go_simp; refine rel_call (FlR.call (pole_c a f _ mid sc _)) (fun v => ?_) (fun v hv => ?_); (simp [FTL, FT, FU, spPap_iff]); obtain ⟨ro, rfl, hro⟩ := hv; refine hK _ ?_; clear hK K hw9 w9)
    | (refine wpR_op rfl (fun w9 hw9 K hK => ?_); go_simp; refine rel_fl rfl ?_; intro rx hrx; refine hK _ ?_; clear hK K hw9 w9)
    | (refine wpR_op rfl (fun w9 hw9 K hK => ?_); go_simp; refine rel_call (FlR.call (lnC_c _ _)) (fun v => ?_) (fun v hv => ?_); (simp [FTL, FT, FU, spOne_iff]); obtain ⟨rl, rfl, hrl⟩ := hv; refine hK _ ?_; clear hK K hw9 w9)
    | (refine wpR_op rfl (fun w9 hw9 K hK => ?_); go_simp; refine rel_call (ExR.call (HL.out _ (by rw [HY.out]; simp [fromY, *, fbin, neg_can]) _)) (fun v => ?_) (fun v hv => ?_); (rw [ftl_r]); subst hv; refine hK _ ?_; clear hK K hw9 w9)
    | (refine wpR_op rfl (fun w9 hw9 K hK => ?_); go_simp; refine hK _ ?_; clear hK K hw9 w9))
  refine wpR_nil ?_
  intro w8 hx8 _
  replace hw := hw.trans (bareN hx8 rfl rfl rfl rfl)
  replace hb3 := hb3.ext (bareN hx8 rfl rfl rfl rfl)
  clear hb1 hb2 hx8
  go_wp2_with (first | (refine wpList_own rfl 31 _ _ rfl _ _ rfl rfl _ _ hb3 (by kernel_rfl) rfl (by simp [Value.oneCell']) ?_; go_must (intro u bn en sn; replace hw := en w hw (by omega); have kc := bn.cell; clear sn en hb3)))
  refine bodyPost_ret (v := .tuple #[placeW (signP M) r, .nilIface]) (by simp [results, Tryz.results22, go_sem, kc]) rfl ⟨_, by rw [HLon.out], .nil, hw⟩
end Go.Proofs.YtopedblojfnlnaaGreatDoor
