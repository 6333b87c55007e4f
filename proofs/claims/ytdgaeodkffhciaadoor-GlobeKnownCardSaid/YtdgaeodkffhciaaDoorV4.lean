/- The walk of the law GlobeKnown. -/
import Derived.Test.YtdgaeodkffhciaaDoorV2
import Derived.Test.YtdgaeodkffhciaaDoorV3
namespace Go.Proofs.YtdgaeodkffhciaaDoor
open Go.RowKit Go.Fp Go.Rel
set_option maxRecDepth 20000

theorem run_equalIn_float {P : Program} (w : World) (d : Nat) (t : TypeId) (k k' : FloatKind) (a b : Nat) (h : P.underlying t = some (.float k')) : (Op.equalIn (d + 1) t (.float k a) (.float k b)).run P w = .ok (k.format.order a b == some .eq) w := by
  simp [Op.equalIn, run_underlying h, Op.floatEq]
theorem eqGlobe {a f : Nat} (ha : isNan a = false) (hf : isNan f = false) (w : World) : (binOp .neq 51 (globeV a f) (globeV a f)).run Tryd.prog w = .ok (.bool false) w := by
  have h1 : FloatKind.f64.format.order a a = some .eq := order_self ha
  have h2 : FloatKind.f64.format.order f f = some .eq := order_self hf
  have h3 : ∀ (w : World) (x : Nat), (Op.equalIn 9999 48 (.float .f64 x) (.float .f64 x)).run Tryd.prog w = .ok (FloatKind.f64.format.order x x == some .eq) w := fun w x => run_equalIn_float w 9998 _ _ .f64 x x Tryd.underlying48
  go_simp

set_option maxHeartbeats 8000000 in
theorem globeKnown_walk {A : Nat → Addr} (name : ByteArray) (ga gf : Nat) (lat : Int) (w : World) (h8 : World8 A w) :
    Calls Tryd.prog 5 #[.string name, globeV ga gf, .int .i64 lat] w (ExR (.bool true) w) := by
  obtain ⟨a, f, k, hk⟩ := known_some name
  obtain ⟨ha, hf⟩ := hk.fine
  have tk : Hid True := trivial
  have q1 : FloatKind.f64.format.order 4708606483430899712 4708606483430899712 = some .eq := by kernel_rfl
  have hk1 := Lib.hid hk
  have h1 : FloatKind.f64.format.order a a = some .eq := order_self ha
  have h2 : FloatKind.f64.format.order f f = some .eq := order_self hf
  have h3 : ∀ (w : World) (x : Nat), (Op.equalIn 9999 48 (.float .f64 x) (.float .f64 x)).run Tryd.prog w = .ok (FloatKind.f64.format.order x x == some .eq) w := fun w x => run_equalIn_float w 9998 _ _ .f64 x x Tryd.underlying48
  clear hk ha hf
  go_enter Tryd.func5, Tryd.ntmps5
  go_wp2_with (first
    | (go_at_call 18; clear tk; refine (known_c .wgs _ (h8.ext ((Ext.refl w).alloc _))).mono ?_; rintro e w1 ⟨v1, rfl, hv1, hx1⟩; obtain ⟨hb1, hxa⟩ := ext1 hx1; cases hv1)
    | (go_at_call 18; refine (known_c hk1.out _ (h8.ext (by repeat (first | exact Ext.refl _ | assumption | refine Ext.drew ?_ | refine Ext.drewN ?_ _ | refine Ext.alloc ?_ _)))).mono ?_; rintro e w2 ⟨v2, rfl, hv2, hx2⟩; obtain ⟨hb7, hxb⟩ := ext1 hx2)
    | (refine wpList_own rfl 51 _ _ rfl _ _ rfl rfl _ _ hb7 (by kernel_rfl) rfl (by simp [Value.oneCell']) ?_; intro w3 hb7' hk3 ho3; have hxc : Ext w w3 := hk3 _ (hxa.trans hxb) hxa.size; have hb1' := (hb1.ext hxb).other ho3 (Nat.ne_of_lt hb1.lt); clear hb7 hb1 ho3 hk3)
    | (go_at_call 19; refine (knownOf_c hk1.out _).mono ?_; rintro e w4 ⟨rfl, hx4⟩; have hb7 := hb7'.ext hx4; have hb1 := hb1'.ext hx4; have hxd := hxc.trans hx4; clear hb7' hb1')
    | (go_at_call 11; refine (coded_c (h8.ext (by repeat (first | exact Ext.refl _ | assumption | refine Ext.drew ?_ | refine Ext.drewN ?_ _ | refine Ext.alloc ?_ _))) hv2 _).mono ?_; rintro e w5 ⟨rfl, hx5⟩; obtain ⟨hb9, hxe⟩ := ext1 hx5))
  have hxz : Ext w4 w5 := hxe
  refine wp_region_all (fun g args v => g = 20 ∧ args = #[globeV a f] ∧ v = globeV a f) (by kernel_rfl) (by kernel_rfl) ?_
  repeat (first
    | (refine wpR_op rfl (fun w1 hw K hK => ?_); go_simp; refine hK _ ?_; clear hK K hw w1)
    | (refine wpR_want rfl (fun w6 hw K hK => ?_); have c7 := ((hb7.ext hxe).ext hw.of_drew).cell; have c9 := (hb9.ext hw.of_drew).cell; go_simp; refine hK _ ?_; clear hK K c7 c9 hw w6)
    | (refine wpR_want rfl (fun w6 hw K hK => ?_); go_simp; refine rel_call (ExR.call (ball_c a f _)) (fun v => ?_) (fun v hv => ?_); (simp); subst hv; refine hK _ ?_; clear hK K hw w6))
  refine wpR_nil ?_
  intro w6 hx6 _
  have hy6 := hx6.of_drew
  have hq1 := (hb1.ext hxe).ext hy6
  have hx16 : Ext w w6 := (hxd.trans hxe).trans hy6
  clear hb1 hb7 hb9 hx6 hy6 hxe hxz hx5 hxd hx4 hxc hxb hx2 hxa hx1 hv2 h1 h2 h3 hk1
  have c1 := hq1.cell
  have tkb : Hid True := trivial
  cases hok : okG ga gf
  · have HG : Hid (∀ w, Calls Tryd.prog 21 #[globeV ga gf] w (ExR (.int .i64 3) w)) := fun w => by simpa [hok] using globeError_c ga gf w
    have HV : Hid (∀ w, World8 A w → Calls Tryd.prog 22 #[globeV ga gf] w (ExR (errV (A 0)) w)) := fun w h => by simpa [hok] using valid_c ga gf w h
    clear hok
    go_wp2_with (first
      | (go_at_call 21; refine (HG.out _).mono ?_; rintro e w7 ⟨rfl, hx7⟩; have c7 := (hq1.ext hx7).cell; have hx17 : Ext w w7 := hx16.trans hx7)
      | (go_at_call 20; refine (ball_c ga gf _).mono ?_; rintro e w8 ⟨rfl, hx8⟩; have hx18 : Ext w w8 := hx17.trans hx8)
      | (go_at_call 22; refine (HV.out _ (h8.ext hx18)).mono ?_; rintro e w9 ⟨rfl, hx9⟩; have hx19 : Ext w w9 := hx18.trans hx9)
      | (go_at_call 11; refine (coded_c (h8.ext hx19) .shape _).mono ?_; rintro e w10 ⟨rfl, hx10⟩; have hx20 : Ext w w10 := hx19.trans hx10))
    go_ret
    exact ⟨rfl, hx20⟩
  · have HG : Hid (∀ w, Calls Tryd.prog 21 #[globeV ga gf] w (ExR (.int .i64 0) w)) := fun w => by simpa [hok] using globeError_c ga gf w
    have HV : Hid (∀ w, World8 A w → Calls Tryd.prog 22 #[globeV ga gf] w (ExR .nilIface w)) := fun w h => by simpa [hok] using valid_c ga gf w h
    clear hok
    go_wp2_with (first
      | (go_at_call 21; refine (HG.out _).mono ?_; rintro e w7 ⟨rfl, hx7⟩; have c7 := (hq1.ext hx7).cell; have hx17 : Ext w w7 := hx16.trans hx7)
      | (go_at_call 20; refine (ball_c ga gf _).mono ?_; rintro e w8 ⟨rfl, hx8⟩; have hx18 : Ext w w8 := hx17.trans hx8)
      | (go_at_call 22; refine (HV.out _ (h8.ext hx18)).mono ?_; rintro e w9 ⟨rfl, hx9⟩; have hx19 : Ext w w9 := hx18.trans hx9)
      | (go_at_call 11; refine (coded_c (h8.ext hx19) .nil _).mono ?_; rintro e w10 ⟨rfl, hx10⟩; have hx20 : Ext w w10 := hx19.trans hx10))
    have hq2 := hq1.ext (((hx7.trans hx8).trans hx9).trans hx10)
    clear c1 c7 hx16 hx17 hx18 hx19 hx7 hx8 hx9 hx10
    refine wp_region_all (fun g args v => (g = 20 ∧ args = #[globeV ga gf] ∧ v = globeV ga gf) ∨ (g = 24 ∧ args = #[globeV ga gf, .int .i64 lat] ∧ isFl (crossP ga gf lat) v) ∨ (g = 25 ∧ args = #[globeV ga gf, .int .i64 lat] ∧ isFl (crossP ga gf lat) v) ∨
      (g = 23 ∧ v = .bool true)) (by kernel_rfl) (by kernel_rfl) ?_
    repeat (first
      | (refine wpR_op rfl (fun w1 hw K hK => ?_); go_simp; refine hK _ ?_; clear hK K hw w1)
      | (refine wpR_want rfl (fun w6 hw K hK => ?_); have c9 := (hq2.ext hw.of_drew).cell; go_simp; refine hK _ ?_; clear hK K c9 hw w6)
      | (refine wpR_want rfl (fun w6 hw K hK => ?_); go_simp; refine rel_call (ExR.call (ball_c ga gf _)) (fun v => ?_) (fun v hv => ?_); (simp); subst hv; refine hK _ ?_; clear hK K hw w6)
      | (refine wpR_want rfl (fun w6 hw K hK => ?_); go_simp; refine rel_call (FlR.call (cross_c ga gf lat _)) (fun v => ?_) (fun v hv => ?_); (simp); obtain ⟨r1, rfl, hr1⟩ := hv; refine hK _ ?_; clear hK K hw w6)
      | (refine wpR_want rfl (fun w6 hw K hK => ?_); go_simp; refine rel_call (FlR.call (crossOf_c ga gf lat _)) (fun v => ?_) (fun v hv => ?_); (simp); obtain ⟨r2, rfl, hr2⟩ := hv; refine hK _ ?_; clear hK K hw w6)
      | (refine wpR_want rfl (fun w6 hw K hK => ?_); go_simp; refine rel_call (ExR.call (sameBits_c r1 r2 _ (hr1.trans hr2.symm))) (fun v => ?_) (fun v hv => ?_); (simp); subst hv; refine hK _ ?_; clear hK K hw w6))
    refine wpR_nil ?_
    intro w11 hx11 _
    have hx21 : Ext w w11 := hx20.trans hx11.of_drew
    go_wp2_with fail
    go_ret
    exact ⟨rfl, hx21⟩
end Go.Proofs.YtdgaeodkffhciaaDoor
