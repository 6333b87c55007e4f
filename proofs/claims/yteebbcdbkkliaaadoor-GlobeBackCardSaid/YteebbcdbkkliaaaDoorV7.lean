/- Walks: the vector of a place on a globe, where there is one. -/
import Derived.Test.YteebbcdbkkliaaaDoorZD
namespace Go.Proofs.YteebbcdbkkliaaaDoor
open Go.RowKit Go.Fp Go.Rel
set_option maxRecDepth 20000

set_option maxHeartbeats 16000000 in
theorem vec_ok {A : Nat → Addr} (a f : Nat) (lon lat : Int) (high : Nat) (w : World) (h8 : World8 A w) (h : okG a f = true) (h1 : lat ≤ 90000000000) (h2 : -90000000000 ≤ lat) (h3 : btw high cLo cHi = true) :
    Calls Tryd.prog 7 #[globeV a f, placeV lon lat, .float .f64 high] w
      (VecR A (fmul (vecD a f lat high) (can (cosP lon))) (fmul (vecD a f lat high) (can (sinP lon))) (vecZ a f lat high) 0 w) := by
  have HV : Hid (∀ w, World8 A w → Calls Tryd.prog 27 #[globeV a f] w (ExR .nilIface w)) := fun w h' => by simpa [h] using valid_c a f w h'
  clear h
  unfold vecD vecZ
  obtain ⟨o1 | o1, o2 | o2⟩ := btw_true h3
  all_goals
    clear h3
    go_enter Tryd.func7, Tryd.ntmps7
    go_wp2_with (first
      | (go_at_call 27; refine (HV.out _ (h8.ext (by repeat (first | exact Ext.refl _ | refine Ext.alloc ?_ _)))).mono ?_; rintro e w1 ⟨rfl, hx1⟩; obtain ⟨hb1, hb2, hb3, hw1⟩ := ext3 hx1; have c1 := hb1.cell; have c2 := hb2.cell)
      | (go_at_call 28; refine (cross_c a f lat _).mono ?_; rintro e w2 ⟨rn, rfl, hrn, hx2⟩; clear c1 c2; replace hb1 := hb1.ext hx2; replace hb2 := hb2.ext hx2; replace hb3 := hb3.ext hx2; have hw2 := hw1.trans hx2; have c1 := hb1.cell; have c2 := hb2.cell)
      | (go_at_call 29; refine (cos_c lat _).mono ?_; rintro e w3 ⟨rfl, hx3⟩; replace hx3 := hx3.of_drewN; clear c1 c2; replace hb1 := hb1.ext hx3; replace hb2 := hb2.ext hx3; replace hb3 := hb3.ext hx3; have hw3 := hw2.trans hx3; have c1 := hb1.cell; have c2 := hb2.cell)
      | (with_reducible refine upon_fl rfl ?_; intro r n hr))
    clear c1 c2
    refine wp_region_head 22 (fun g args v => (g = 29 ∧ SpInt (fun a => .float .f64 (cosP a)) args v) ∨ (g = 30 ∧ SpInt (fun a => .float .f64 (sinP a)) args v) ∨ (g = 31 ∧ SpGl (fun _ f => eccP f) args v)) (by kernel_rfl) (by kernel_rfl) ?_
    simp only [List.take_succ_cons, List.take_zero, List.drop_succ_cons, List.drop_zero]
    repeat (first
      | (refine wpR_op rfl (fun w1 hw K hK => ?_); have c1 := ((hb1.drewN _).ext hw.of_drew).cell; have c2 := ((hb2.drewN _).ext hw.of_drew).cell; go_simp; refine hK _ ?_; clear hK K c1 c2 hw w1)
      | (refine wpR_op rfl (fun w1 hw K hK => ?_); go_simp; refine rel_fl rfl ?_; intro r hr; refine hK _ ?_; clear hK K hw w1)
      | (refine wpR_op rfl (fun w1 hw K hK => ?_); go_simp; refine rel_call (ExR.call (cos_c _ _)) (fun v => ?_) (fun v hv => ?_); (simp [spInt_iff]); subst hv; refine hK _ ?_; clear hK K hw w1)
      | (refine wpR_op rfl (fun w1 hw K hK => ?_); go_simp; refine rel_call (ExR.call (sin_c _ _)) (fun v => ?_) (fun v hv => ?_); (simp [spInt_iff]); subst hv; refine hK _ ?_; clear hK K hw w1)
      | (refine wpR_op rfl (fun w1 hw K hK => ?_); go_simp; refine rel_call (FlR.call (ecc_c a f _)) (fun v => ?_) (fun v hv => ?_); (simp [spGl_iff']); obtain ⟨re, rfl, hre⟩ := hv; refine hK _ ?_; clear hK K hw w1))
    refine wpR_nil ?_
    intro w4 hx4 _
    replace hx4 := hx4.of_drew.of_drewN
    replace hb3 := hb3.ext hx4
    have hw4 := hw3.trans hx4
    refine wpList_own rfl 29 _ _ rfl _ _ rfl rfl _ _ hb3 (by kernel_rfl) rfl (by simp [Value.oneCell']) ?_
    intro w5 hb4 hk5 _
    have hw5 : Ext w w5 := hk5 _ hw4 (by omega)
    have c4 := hb4.cell
    clear hb3 hk5
    go_wp2_with fail
    refine bodyPost_ret (v := .tuple #[vecV _ _ _, .nilIface]) (by simp [results, Tryd.results7, go_sem, c4]; exact ⟨rfl, rfl, rfl⟩) rfl ⟨_, _, _, _, rfl, ?_, ?_, ?_, .nil, hw5⟩
    all_goals simp only [*, fbin]
end Go.Proofs.YteebbcdbkkliaaaDoor
