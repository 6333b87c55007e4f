/- Walks: the place of a vector on a globe, where there is one; no error in sight. Printed by gen_back.py. -/
import Derived.Test.YteebbcdbkkliaaaDoorGO
import Derived.Test.YteebbcdbkkliaaaDoorVA
namespace Go.Proofs.YteebbcdbkkliaaaDoor
open Go.RowKit Go.Fp Go.Rel
set_option maxRecDepth 20000

set_option maxHeartbeats 40000000 in
theorem place_ok0 {A : Nat → Addr} (a f x y z : Nat) (w : World) (h : okG a f = true) (o1 : FloatKind.f64.format.order (lenP (can x) (can y) (can z)) (halfP a) = some .gt) (o2 : FloatKind.f64.format.order (lenP (can x) (can y) (can z)) cTop = some .lt) :
    Calls Tryd.prog 8 #[globeV a f, vecV x y z] w
      (PlaceR A (angS (can y) (can x)) (iterT a f z (rootP x y) 8) (highP a f z (rootP x y) (iterT a f z (rootP x y) 8)) 0 w) := by
  have HV : Hid (∀ w, Calls Tryd.prog 27 #[globeV a f] w (ExR .nilIface w)) := fun w => valid_ok a f h w
  clear h
  have HL := Lib.hid (length_c x y z)
  unfold halfP at o1
  generalize lenP (can x) (can y) (can z) = L at *
  generalize hH : fdiv (can a) (can cTwo) = H at *
  have hP : rootP x y = fsqrt (fadd (fmul (can x) (can x)) (fmul (can y) (can y))) := rfl
  generalize rootP x y = P at *
  all_goals
    go_enter Tryd.func8, Tryd.ntmps8
    go_wp2_with (first
      | (go_at_call 27; refine (HV.out _).mono ?_; rintro e w1 ⟨rfl, hx1⟩; obtain ⟨hb1, hb2, hb3, hw1⟩ := ext3 hx1; have c2 := hb2.cell)
      | (go_at_call 32; refine (HL.out _).mono ?_; rintro e w2 ⟨r1, rfl, hr1, hx2⟩; clear c2; replace hb1 := hb1.ext hx2; replace hb2 := hb2.ext hx2; replace hb3 := hb3.ext hx2; have hw2 := hw1.trans hx2; have c1 := hb1.cell; have c2 := hb2.cell)
      | ((with_reducible refine upon_fl rfl ?_); intro r2 n hr2; have p1 := order_of hr1 (hr2.trans hH); have p2 := order_of hr1 canTop; rw [o1] at p1; rw [o2] at p2)
      | ((with_reducible refine upon_fl rfl ?_); intro r n hr)
      | (go_at_call 33; refine (sqrt_c _ _).mono ?_; rintro e w3 ⟨r9, rfl, hr9, hx3⟩; replace hx3 : Ext w2 w3 := bareE hx3 rfl rfl rfl rfl; clear c1 c2 p1 p2; replace hb1 := hb1.ext hx3; replace hb2 := hb2.ext hx3; replace hb3 := hb3.ext hx3; have hw3 := hw2.trans hx3; have c1 := hb1.cell; have c2 := hb2.cell;
         have hr9' : can r9 = P := (by simp only [*, fbin]); clear hr9))
    clear c1 c2 o1 o2 hP
    refine wp_region_all (fun g args v => (g = 31 ∧ SpGl (fun _ f => eccP f) args v) ∨ (g = 34 ∧ SpAng args v)) (by kernel_rfl) (by kernel_rfl) ?_
    repeat (first
      | (refine wpR_op rfl (fun w1 hw K hK => ?_); have c1 := (hb1.ext (bareE hw rfl rfl rfl rfl)).cell; have c2 := (hb2.ext (bareE hw rfl rfl rfl rfl)).cell; go_simp; refine hK _ ?_; clear hK K c1 c2 hw w1)
      | (refine wpR_op rfl (fun w1 hw K hK => ?_); go_simp; refine rel_fl rfl ?_; intro r hr; refine hK _ ?_; clear hK K hw w1)
      | (refine wpR_op rfl (fun w1 hw K hK => ?_); go_simp; refine rel_call (FlR.call (ecc_c a f _)) (fun v => ?_) (fun v hv => ?_); (simp [spGl_iff']); obtain ⟨rf, rfl, hrf⟩ := hv; refine hK _ ?_; clear hK K hw w1)
      | (refine wpR_op rfl (fun w1 hw K hK => ?_); go_simp; refine rel_call (ExR.call (place1_c _ _ _)) (fun v => ?_) (fun v hv => ?_); (simp [spAng_iff]); subst hv; refine hK _ ?_; clear hK K hw w1))
    refine wpR_nil ?_
    intro w4 hx4 _
    replace hx4 : Ext w3 w4 := bareE hx4 rfl rfl rfl rfl
    replace hb1 := hb1.ext hx4
    replace hb2 := hb2.ext hx4
    replace hb3 := hb3.ext hx4
    have hw4 := hw3.trans hx4
    go_wp2_with fail
    go_loopw [11, 54] (fun t i wr => ∃ k : Nat, k ≤ 8 ∧ i = .int .i64 k ∧ t = .int .i64 (iterT a f z P k) ∧ Ext w4 wr) (fun _ i _ => 8 - (intOf i).toNat)
    case atStart => exact ⟨0, by omega, rfl, by simp only [iterT, firstT, cOne, *, fbin], Ext.refl _⟩
    case round =>
      obtain ⟨k, hk, rfl, rfl, hxr⟩ := hrel
      obtain ⟨t, ht⟩ : ∃ t, t = iterT a f z P k := ⟨_, rfl⟩
      rw [← ht]
      have HT := Lib.hid ht
      clear ht
      have hbr1 := hb1.ext hxr
      have hbr2 := hb2.ext hxr
      have hbr3 := hb3.ext hxr
      have hwr := hw4.trans hxr
      by_cases hk8 : k < 8
      · go_wp2_with fail
        refine wp_region_all (fun g args v => (g = 31 ∧ SpGl (fun _ f => eccP f) args v) ∨ (g = 28 ∧ args = #[globeV a f, .int .i64 t] ∧ isFl (crossP a f t) v) ∨ (g = 30 ∧ SpInt (fun a => .float .f64 (sinP a)) args v) ∨ (g = 34 ∧ SpAng args v)) (by kernel_rfl) (by kernel_rfl) ?_
        repeat (first
          | (refine wpR_op rfl (fun w1 hw K hK => ?_); have c1 := (hbr1.ext (bareE hw rfl rfl rfl rfl)).cell; have c2 := (hbr2.ext (bareE hw rfl rfl rfl rfl)).cell; go_simp; refine hK _ ?_; clear hK K c1 c2 hw w1)
          | (refine wpR_op rfl (fun w1 hw K hK => ?_); go_simp; refine rel_fl rfl ?_; intro r hr; refine hK _ ?_; clear hK K hw w1)
          | (refine wpR_op rfl (fun w1 hw K hK => ?_); go_simp; refine rel_call (FlR.call (ecc_c a f _)) (fun v => ?_) (fun v hv => ?_); (simp [spGl_iff']); obtain ⟨rf, rfl, hrf⟩ := hv; refine hK _ ?_; clear hK K hw w1)
          | (refine wpR_op rfl (fun w1 hw K hK => ?_); go_simp; refine rel_call (FlR.call (cross_c a f t _)) (fun v => ?_) (fun v hv => ?_); (simp); obtain ⟨rf, rfl, hrf⟩ := hv; refine hK _ ?_; clear hK K hw w1)
          | (refine wpR_op rfl (fun w1 hw K hK => ?_); go_simp; refine rel_call (ExR.call (sin_c _ _)) (fun v => ?_) (fun v hv => ?_); (simp [spInt_iff]); subst hv; refine hK _ ?_; clear hK K hw w1)
          | (refine wpR_op rfl (fun w1 hw K hK => ?_); go_simp; refine rel_call (ExR.call (place1_c _ _ _)) (fun v => ?_) (fun v hv => ?_); (simp [spAng_iff]); subst hv; refine hK _ ?_; clear hK K hw w1))
        refine wpR_nil ?_
        intro w5 hx5 _
        replace hx5 : Ext wr w5 := bareE hx5 rfl rfl rfl rfl
        go_wp2_with fail
        go_roundw
        case rel => exact ⟨k + 1, by omega, by simp, by simp only [iterT, stepT, ← HT.out, *, fbin], hxr.trans hx5⟩
        case measure => simp [intOf]; omega
      · have hk9 : k = 8 := by omega
        subst hk9
        by_cases ha : t ≤ 45000000000 ∧ -45000000000 ≤ t
        · have HF : Hid (highP a f z P t = highFlat a f P t) := if_pos ha
          obtain ⟨ha1, ha2⟩ := ha
          go_wp2_with fail
          refine wp_region_all (fun g args v => (g = 29 ∧ SpInt (fun a => .float .f64 (cosP a)) args v) ∨ (g = 28 ∧ args = #[globeV a f, .int .i64 t] ∧ isFl (crossP a f t) v)) (by kernel_rfl) (by kernel_rfl) ?_
          repeat (first
            | (refine wpR_op rfl (fun w1 hw K hK => ?_); have c1 := (hbr1.ext (bareE hw rfl rfl rfl rfl)).cell; have c2 := (hbr2.ext (bareE hw rfl rfl rfl rfl)).cell; go_simp; refine hK _ ?_; clear hK K c1 c2 hw w1)
            | (refine wpR_op rfl (fun w1 hw K hK => ?_); go_simp; refine rel_fl rfl ?_; intro r hr; refine hK _ ?_; clear hK K hw w1)
            | (refine wpR_op rfl (fun w1 hw K hK => ?_); go_simp; refine rel_call (FlR.call (cross_c a f t _)) (fun v => ?_) (fun v hv => ?_); (simp); obtain ⟨rf, rfl, hrf⟩ := hv; refine hK _ ?_; clear hK K hw w1)
            | (refine wpR_op rfl (fun w1 hw K hK => ?_); go_simp; refine rel_call (ExR.call (cos_c _ _)) (fun v => ?_) (fun v hv => ?_); (simp [spInt_iff]); subst hv; refine hK _ ?_; clear hK K hw w1))
          refine wpR_nil ?_
          intro w5 hx5 _
          replace hx5 : Ext wr w5 := bareE hx5 rfl rfl rfl rfl
          replace hbr1 := hbr1.ext hx5
          replace hbr2 := hbr2.ext hx5
          replace hbr3 := hbr3.ext hx5
          have hw5 := hwr.trans hx5
          have c1 := hbr1.cell
          have c2 := hbr2.cell
          go_wp2_with (first
            | (go_at_call 34; refine (place1_c y x _).mono ?_; rintro e w6 ⟨rfl, hx6⟩; replace hbr3 := hbr3.ext hx6; have hw6 := hw5.trans hx6)
            | (refine wpList_own rfl 26 _ _ rfl _ _ rfl rfl _ _ hbr3 (by kernel_rfl) rfl (by simp [Value.oneCell']) ?_; intro w7 hb7 hk7 _; have hw7 : Ext w w7 := hk7 _ hw6 (by omega); have c7 := hb7.cell; clear hbr3 hk7))
          exact bodyPost_ret (v := .tuple #[placeV (angS (can y) (can x)) t, .float .f64 _, .nilIface]) (by simp [results, Tryd.results8, go_sem, c7]; rfl) rfl ⟨_, _, by rw [← HT.out], by rw [← HT.out, HF.out]; simp only [highFlat, *, fbin], .nil, hw7⟩
        · have HF : Hid (highP a f z P t = highSteep a f z t) := if_neg ha
          rcases (show 45000000000 < t ∨ t ≤ 45000000000 ∧ t < -45000000000 by omega) with ha1 | ⟨ha1, ha2⟩
          all_goals
            clear ha
            go_wp2_with fail
            refine wp_region_all (fun g args v => (g = 30 ∧ SpInt (fun a => .float .f64 (sinP a)) args v) ∨ (g = 28 ∧ args = #[globeV a f, .int .i64 t] ∧ isFl (crossP a f t) v) ∨ (g = 31 ∧ SpGl (fun _ f => eccP f) args v)) (by kernel_rfl) (by kernel_rfl) ?_
            repeat (first
              | (refine wpR_op rfl (fun w1 hw K hK => ?_); have c1 := (hbr1.ext (bareE hw rfl rfl rfl rfl)).cell; have c2 := (hbr2.ext (bareE hw rfl rfl rfl rfl)).cell; go_simp; refine hK _ ?_; clear hK K c1 c2 hw w1)
              | (refine wpR_op rfl (fun w1 hw K hK => ?_); go_simp; refine rel_fl rfl ?_; intro r hr; refine hK _ ?_; clear hK K hw w1)
              | (refine wpR_op rfl (fun w1 hw K hK => ?_); go_simp; refine rel_call (FlR.call (cross_c a f t _)) (fun v => ?_) (fun v hv => ?_); (simp); obtain ⟨rf, rfl, hrf⟩ := hv; refine hK _ ?_; clear hK K hw w1)
              | (refine wpR_op rfl (fun w1 hw K hK => ?_); go_simp; refine rel_call (FlR.call (ecc_c a f _)) (fun v => ?_) (fun v hv => ?_); (simp [spGl_iff']); obtain ⟨rf, rfl, hrf⟩ := hv; refine hK _ ?_; clear hK K hw w1)
              | (refine wpR_op rfl (fun w1 hw K hK => ?_); go_simp; refine rel_call (ExR.call (sin_c _ _)) (fun v => ?_) (fun v hv => ?_); (simp [spInt_iff]); subst hv; refine hK _ ?_; clear hK K hw w1))
            refine wpR_nil ?_
            intro w5 hx5 _
            replace hx5 : Ext wr w5 := bareE hx5 rfl rfl rfl rfl
            replace hbr1 := hbr1.ext hx5
            replace hbr2 := hbr2.ext hx5
            replace hbr3 := hbr3.ext hx5
            have hw5 := hwr.trans hx5
            have c1 := hbr1.cell
            have c2 := hbr2.cell
            go_wp2_with (first
              | (go_at_call 34; refine (place1_c y x _).mono ?_; rintro e w6 ⟨rfl, hx6⟩; replace hbr3 := hbr3.ext hx6; have hw6 := hw5.trans hx6)
              | (refine wpList_own rfl 26 _ _ rfl _ _ rfl rfl _ _ hbr3 (by kernel_rfl) rfl (by simp [Value.oneCell']) ?_; intro w7 hb7 hk7 _; have hw7 : Ext w w7 := hk7 _ hw6 (by omega); have c7 := hb7.cell; clear hbr3 hk7))
            exact bodyPost_ret (v := .tuple #[placeV (angS (can y) (can x)) t, .float .f64 _, .nilIface]) (by simp [results, Tryd.results8, go_sem, c7]; rfl) rfl ⟨_, _, by rw [← HT.out], by rw [← HT.out, HF.out]; simp only [highSteep, cOne, *, fbin], .nil, hw7⟩
end Go.Proofs.YteebbcdbkkliaaaDoor
