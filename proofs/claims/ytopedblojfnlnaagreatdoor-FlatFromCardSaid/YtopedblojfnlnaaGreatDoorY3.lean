/- Walks: how far a latitude is from the pole, and how far up it is, on paper: package flat's and the reference's. -/
import Derived.Test.YtopedblojfnlnaaGreatDoorY1
import Derived.Test.YtopedblojfnlnaaGreatDoorY2
namespace Go.Proofs.YtopedblojfnlnaaGreatDoor
open Go.RowKit Go.Fp Go.Rel
set_option maxRecDepth 20000

abbrev kOne : Nat := 4607182418800017408
abbrev kTwo : Nat := 4611686018427387904
def poleP (f : Nat) : Nat := expP (fdiv (fadd (fmul (fadd (can kOne) (fsqrt (eccP f))) (can (lnP (fadd (can kOne) (fsqrt (eccP f)))))) (fmul (fsub (can kOne) (fsqrt (eccP f))) (can (lnP (fsub (can kOne) (fsqrt (eccP f))))))) (can kTwo))
def downP (a f sc : Nat) (lat : Int) : Nat := fdiv (fmul (fmul (can kTwo) (fmul (can a) (can sc))) (expP (negC (isoP f lat)))) (poleP f)
def upQ (f : Nat) (lat : Int) : Nat := if D.order (fsqrt (eccP f)) 0 = some .eq then fmul (can kTwo) (can (sinP lat)) else
  fmul (fsub (can kOne) (eccP f)) (fadd (fdiv (can (sinP lat)) (fsub (can kOne) (fmul (fmul (eccP f) (can (sinP lat))) (can (sinP lat))))) (fdiv (lnR (fmul (fsqrt (eccP f)) (can (sinP lat)))) (fmul (can kTwo) (fsqrt (eccP f)))))
def upP (a f sc : Nat) (lat : Int) : Nat := fdiv (fmul (fdiv (can a) (can sc)) (upQ f lat)) (can kTwo)

def SpPap (g : Nat → Nat → Nat → Nat) (args : Array Value) (v : Value) : Prop := ∃ (a f : Nat) (s : ByteArray) (mid : Int) (sc : Nat), args = #[paperV a f s mid sc] ∧ isFl (g a f sc) v
theorem spPap_iff (g : Nat → Nat → Nat → Nat) (a f : Nat) (s : ByteArray) (mid : Int) (sc : Nat) (v : Value) : SpPap g #[paperV a f s mid sc] v ↔ isFl (g a f sc) v := by
  unfold SpPap
  exact ⟨fun ⟨_, _, _, _, _, h, k⟩ => by simp at h; obtain ⟨rfl, rfl, _, _, rfl⟩ := h; exact k, fun h => ⟨_, _, _, _, _, rfl, h⟩⟩
def SpPapI (g : Nat → Nat → Nat → Int → Nat) (args : Array Value) (v : Value) : Prop := ∃ (a f : Nat) (s : ByteArray) (mid : Int) (sc : Nat) (l : Int), args = #[paperV a f s mid sc, .int .i64 l] ∧ isFl (g a f sc l) v
theorem spPapI_iff (g : Nat → Nat → Nat → Int → Nat) (a f : Nat) (s : ByteArray) (mid : Int) (sc : Nat) (l : Int) (v : Value) : SpPapI g #[paperV a f s mid sc, .int .i64 l] v ↔ isFl (g a f sc l) v := by
  unfold SpPapI
  exact ⟨fun ⟨_, _, _, _, _, _, h, k⟩ => by simp at h; obtain ⟨⟨rfl, rfl, _, _, rfl⟩, rfl⟩ := h; exact k, fun h => ⟨_, _, _, _, _, _, rfl, h⟩⟩

/-- what the functions that regions call hand back -/
def FU (g : FuncId) (args : Array Value) (v : Value) : Prop :=
  (g = 37 ∧ SpIntN (fun a => .float .f64 (sinP a)) args v) ∨ (g = 35 ∧ SpIntN (fun a => .float .f64 (cosP a)) args v) ∨
  (g = 71 ∧ SpGl (fun _ f => eccP f) args v) ∨ (g = 72 ∧ SpGl (fun _ f => eccP f) args v) ∨
  (g = 38 ∧ SpOne fsqrt args v) ∨ (g = 73 ∧ SpTri (fun x y z => fsub x (fmul y z)) args v) ∨ (g = 49 ∧ SpTri (fun x y z => fadd x (fmul y z)) args v) ∨
  (g = 62 ∧ SpOne (fun x => can (lnP x)) args v) ∨ (g = 69 ∧ SpOne (fun x => can (lnP x)) args v) ∨
  (g = 78 ∧ SpOne expP args v) ∨ (g = 47 ∧ SpOne expP args v) ∨ (g = 74 ∧ SpOne lnR args v) ∨
  (g = 25 ∧ SpGlI (fun _ f l => isoP f l) args v) ∨ (g = 27 ∧ SpGlI (fun _ f l => isoP f l) args v) ∨
  (g = 58 ∧ SpGlI crossP args v) ∨ (g = 59 ∧ SpGlI crossP args v) ∨ (g = 68 ∧ SpGl (fun _ f => poleP f) args v) ∨
  (g = 63 ∧ SpPap (fun _ f _ => poleP f) args v) ∨ (g = 64 ∧ SpPap (fun a _ s => fmul (can a) (can s)) args v) ∨
  (g = 92 ∧ SpPapI downP args v) ∨ (g = 66 ∧ SpPapI upP args v) ∨ (g = 97 ∧ SpPapI upP args v)
theorem lnC_c (x : Nat) (w : World) : Calls Tryz.prog 62 #[.float .f64 x] w (FlR (can (lnP (can x))) w) := by rw [lnP_can]; exact ln_c x w
theorem lnOfC_c (x : Nat) (w : World) : Calls Tryz.prog 69 #[.float .f64 x] w (FlR (can (lnP (can x))) w) := by rw [lnP_can]; exact lnOf_c x w
theorem expC_c (x : Nat) (w : World) : Calls Tryz.prog 78 #[.float .f64 x] w (FlR (expP (can x)) w) := by rw [expP_can]; exact exp_c x w
theorem expOfC_c (x : Nat) (w : World) : Calls Tryz.prog 47 #[.float .f64 x] w (FlR (expP (can x)) w) := by rw [expP_can]; exact expOf_c x w

set_option maxHeartbeats 4000000 in
theorem paperA_c (a f : Nat) (s : ByteArray) (mid : Int) (sc : Nat) (w : World) : Calls Tryz.prog 64 #[paperV a f s mid sc] w (FlR (fmul (can a) (can sc)) w) := by
  go_enter Tryz.func64, Tryz.ntmps64
  go_wp2_with (first | (with_reducible refine upon_fl rfl ?_; intro r n hr))
  go_ret
  refine ⟨_, rfl, by simp only [*, fbin], ?_⟩
  repeat (first | exact Ext.refl _ | refine Ext.drewN ?_ _ | refine Ext.alloc ?_ _)

set_option maxHeartbeats 8000000 in
theorem pole_c (a f : Nat) (s : ByteArray) (mid : Int) (sc : Nat) (w : World) : Calls Tryz.prog 63 #[paperV a f s mid sc] w (FlR (poleP f) w) := by
  unfold poleP
  have tk1 : Hid True := trivial
  go_enter Tryz.func63, Tryz.ntmps63
  go_wp2_with (first
    | (go_at_call 71; go_must (refine (ecc_c a f _).mono ?_; rintro e w2 ⟨r2, rfl, hr2, hx⟩; obtain ⟨hb1, hw⟩ := ext1 hx; clear hx))
    | (go_at_call 38; go_must (refine (sqrt_c _ _).mono ?_; rintro e w2 ⟨r3, rfl, hr3, hx⟩; replace hw := hw.trans (bareN hx rfl rfl rfl rfl); clear hx))
    | (go_at_call 62; clear tk1; go_must (refine (lnC_c _ _).mono ?_; rintro e w2 ⟨l1, rfl, hl1, hx⟩; replace hw := hw.trans (bareN hx rfl rfl rfl rfl); clear hx))
    | (go_at_call 62; go_must (refine (lnC_c _ _).mono ?_; rintro e w2 ⟨l2, rfl, hl2, hx⟩; replace hw := hw.trans (bareN hx rfl rfl rfl rfl); clear hx))
    | (go_at_call 78; go_must (refine (expC_c _ _).mono ?_; rintro e w2 ⟨p1, rfl, hp1, hx⟩; replace hw := hw.trans (bareN hx rfl rfl rfl rfl); clear hx))
    | (with_reducible refine upon_fl rfl ?_; intro r n hr))
  go_ret
  refine ⟨_, rfl, ?_, by repeat (first | exact hw | refine Ext.drewN ?_ _)⟩
  simp only [*, fbin]
set_option maxHeartbeats 8000000 in
theorem poleOf_c (a f : Nat) (w : World) : Calls Tryz.prog 68 #[globeV a f] w (FlR (poleP f) w) := by
  unfold poleP
  have tk1 : Hid True := trivial
  go_enter Tryz.func68, Tryz.ntmps68
  go_wp2_with (first
    | (go_at_call 72; go_must (refine (squareOf_c a f _).mono ?_; rintro e w2 ⟨r2, rfl, hr2, hx⟩; obtain ⟨hb1, hw⟩ := ext1 hx; clear hx))
    | (go_at_call 38; go_must (refine (sqrt_c _ _).mono ?_; rintro e w2 ⟨r3, rfl, hr3, hx⟩; replace hw := hw.trans (bareN hx rfl rfl rfl rfl); clear hx))
    | (go_at_call 69; clear tk1; go_must (refine (lnOfC_c _ _).mono ?_; rintro e w2 ⟨l1, rfl, hl1, hx⟩; replace hw := hw.trans (bareN hx rfl rfl rfl rfl); clear hx))
    | (go_at_call 69; go_must (refine (lnOfC_c _ _).mono ?_; rintro e w2 ⟨l2, rfl, hl2, hx⟩; replace hw := hw.trans (bareN hx rfl rfl rfl rfl); clear hx))
    | (go_at_call 49; go_must (refine (plus_c _ _ _ _).mono ?_; rintro e w2 ⟨p2, rfl, hp2, hx⟩; replace hw := hw.trans (bareN hx rfl rfl rfl rfl); clear hx))
    | (go_at_call 47; go_must (refine (expOfC_c _ _).mono ?_; rintro e w2 ⟨p1, rfl, hp1, hx⟩; replace hw := hw.trans (bareN hx rfl rfl rfl rfl); clear hx))
    | (with_reducible refine upon_fl rfl ?_; intro r n hr))
  go_ret
  refine ⟨_, rfl, ?_, by repeat (first | exact hw | refine Ext.drewN ?_ _)⟩
  simp only [*, fbin]
set_option maxHeartbeats 8000000 in
theorem down_c (a f : Nat) (s : ByteArray) (mid : Int) (sc : Nat) (lat : Int) (w : World) : Calls Tryz.prog 92 #[paperV a f s mid sc, .int .i64 lat] w (FlR (downP a f sc lat) w) := by
  go_enter Tryz.func92, Tryz.ntmps92
  go_wp2_with fail
  have hb1 := Blk.new w #[.float .f64 a, .float .f64 f, .string s, .int .i64 mid, .float .f64 sc] 63
  have hw1 : Ext w (w.alloc (.cells #[.float .f64 a, .float .f64 f, .string s, .int .i64 mid, .float .f64 sc] 63)) := (Ext.refl w).alloc _
  refine wp_region_all FU (by kernel_rfl) (by kernel_rfl) ?_
  repeat (first
    | (refine wpR_op rfl (fun w9 hw9 K hK => ?_); have k1 := (hb1.ext (bareN hw9 rfl rfl rfl rfl)).cell; go_simp; refine hK _ ?_; clear hK K k1 hw9 w9)
    | (refine wpR_op rfl (fun w9 hw9 K hK => ?_); go_simp; refine rel_call (FlR.call (paperA_c a f s mid sc _)) (fun v => ?_) (fun v hv => ?_); (simp [FU, spPap_iff]); obtain ⟨ra, rfl, hra⟩ := hv; refine hK _ ?_; clear hK K hw9 w9)
    | (refine wpR_op rfl (fun w9 hw9 K hK => ?_); go_simp; refine rel_call (FlR.call (iso_c a f lat _)) (fun v => ?_) (fun v hv => ?_); (simp [FU, spGlI_iff]); obtain ⟨ri, rfl, hri⟩ := hv; refine hK _ ?_; clear hK K hw9 w9)
    | (refine wpR_op rfl (fun w9 hw9 K hK => ?_); go_simp; refine rel_call (FlR.call (expC_c _ _)) (fun v => ?_) (fun v hv => ?_); (simp [FU, spOne_iff]); obtain ⟨rp, rfl, hrp⟩ := hv; refine hK _ ?_; clear hK K hw9 w9)
    | (refine wpR_op rfl (fun w9 hw9 K hK => ?_); go_simp; refine rel_call (FlR.call (pole_c a f s mid sc _)) (fun v => ?_) (fun v hv => ?_); (simp [FU, spPap_iff]); obtain ⟨ro, rfl, hro⟩ := hv; refine hK _ ?_; clear hK K hw9 w9)
    | (refine wpR_op rfl (fun w9 hw9 K hK => ?_); go_simp; refine rel_fl rfl ?_; intro rx hrx; refine hK _ ?_; clear hK K hw9 w9))
  refine wpR_nil ?_
  intro w8 hx8 _
  have hw := hw1.trans (bareN hx8 rfl rfl rfl rfl)
  clear hx8 hb1 hw1
  go_wp2_with (first | (with_reducible refine upon_fl rfl ?_; intro r n hr))
  go_ret
  refine ⟨_, rfl, ?_, by repeat (first | exact hw | refine Ext.drewN ?_ _)⟩
  simp only [downP, *, fbin, neg_can]
set_option maxHeartbeats 8000000 in
theorem up_c (a f : Nat) (s : ByteArray) (mid : Int) (sc : Nat) (lat : Int) (w : World) : Calls Tryz.prog 66 #[paperV a f s mid sc, .int .i64 lat] w (FlR (upP a f sc lat) w) := by
  go_enter Tryz.func66, Tryz.ntmps66
  go_wp2_with fail
  have hb1 := Blk.new w #[.float .f64 a, .float .f64 f, .string s, .int .i64 mid, .float .f64 sc] 63
  have hw1 : Ext w (w.alloc (.cells #[.float .f64 a, .float .f64 f, .string s, .int .i64 mid, .float .f64 sc] 63)) := (Ext.refl w).alloc _
  refine wp_region_all FU (by kernel_rfl) (by kernel_rfl) ?_
  repeat (first
    | (refine wpR_op rfl (fun w9 hw9 K hK => ?_); have k1 := (hb1.ext (bareN hw9 rfl rfl rfl rfl)).cell; go_simp; refine hK _ ?_; clear hK K k1 hw9 w9)
    | (refine wpR_op rfl (fun w9 hw9 K hK => ?_); go_simp; refine rel_call (ExR.call (sin_c _ _)) (fun v => ?_) (fun v hv => ?_); (simp [FU, spIntN_iff]); subst hv; refine hK _ ?_; clear hK K hw9 w9)
    | (refine wpR_op rfl (fun w9 hw9 K hK => ?_); go_simp; refine rel_call (FlR.call (ecc_c a f _)) (fun v => ?_) (fun v hv => ?_); (simp [FU, spGl_iff']); obtain ⟨re, rfl, hre⟩ := hv; refine hK _ ?_; clear hK K hw9 w9)
    | (refine wpR_op rfl (fun w9 hw9 K hK => ?_); go_simp; refine rel_call (FlR.call (sqrt_c _ _)) (fun v => ?_) (fun v hv => ?_); (simp [FU, spOne_iff]); obtain ⟨rq, rfl, hrq⟩ := hv; refine hK _ ?_; clear hK K hw9 w9)
    | (refine wpR_op rfl (fun w9 hw9 K hK => ?_); go_simp; refine rel_fl rfl ?_; intro rx hrx; refine hK _ ?_; clear hK K hw9 w9))
  refine wpR_nil ?_
  intro w8 hx8 _
  have hw := hw1.trans (bareN hx8 rfl rfl rfl rfl)
  replace hb1 := hb1.ext (bareN hx8 rfl rfl rfl rfl)
  clear hx8 hw1
  have kc := hb1.cell
  rw [hre] at hrq
  by_cases hz : D.order (fsqrt (eccP f)) 0 = some .eq
  · have o1 : (FloatKind.f64.format.order rq 0 != some .eq) = false := by
      rw [← hrq, order_canZ] at hz
      have : FloatKind.f64.format.order rq 0 = some .eq := hz
      rw [this]; rfl
    go_wp2_with (first | (with_reducible refine upon_fl rfl ?_; intro r n hr))
    go_ret
    refine ⟨_, rfl, ?_, by repeat (first | exact hw | refine Ext.drewN ?_ _)⟩
    unfold upP upQ
    rw [if_pos hz]
    simp only [*, fbin]
  · have o1 : (FloatKind.f64.format.order rq 0 != some .eq) = true := by
      rw [← hrq, order_canZ] at hz
      have : ¬ FloatKind.f64.format.order rq 0 = some .eq := hz
      simpa using this
    go_wp2_with (first
      | (go_at_call 71; clear kc; go_must (refine (ecc_c a f _).mono ?_; rintro e w2 ⟨r2, rfl, hr2, hx⟩; replace hw := hw.trans (bareN hx rfl rfl rfl rfl); replace hb1 := hb1.ext (bareN hx rfl rfl rfl rfl); clear hx; have kc := hb1.cell))
      | (go_at_call 62; clear kc; go_must (refine (lnC_c _ _).mono ?_; rintro e w2 ⟨r3, rfl, hr3, hx⟩; replace hw := hw.trans (bareN hx rfl rfl rfl rfl); replace hb1 := hb1.ext (bareN hx rfl rfl rfl rfl); clear hx; have kc := hb1.cell))
      | (with_reducible refine upon_fl rfl ?_; intro r n hr))
    go_ret
    refine ⟨_, rfl, ?_, by repeat (first | exact hw | refine Ext.drewN ?_ _)⟩
    unfold upP upQ
    rw [if_neg hz]
    simp only [lnR, *, fbin]
set_option maxHeartbeats 8000000 in
theorem upOf_c (a f : Nat) (s : ByteArray) (mid : Int) (sc : Nat) (lat : Int) (w : World) : Calls Tryz.prog 97 #[paperV a f s mid sc, .int .i64 lat] w (FlR (upP a f sc lat) w) := by
  go_enter Tryz.func97, Tryz.ntmps97
  by_cases hz : D.order (fsqrt (eccP f)) 0 = some .eq
  · have HO : Hid (∀ r, can r = fsqrt (eccP f) → (FloatKind.f64.format.order r 0 != some .eq) = false) := Lib.hid (by
      intro r hr
      have hz' := hz
      rw [← hr, order_canZ] at hz'
      have : FloatKind.f64.format.order r 0 = some .eq := hz'
      rw [this]; rfl)
    have HZ := Lib.hid hz
    clear hz
    go_wp2_with (first
      | (go_at_call 48; refine (sincos_c _ _).mono ?_; rintro e w' ⟨rfl, rfl⟩)
      | (go_at_call 72; go_must (refine (squareOf_c a f _).mono ?_; rintro e w2 ⟨r2, rfl, hr2, hx⟩; obtain ⟨hb1, hw⟩ := ext1 hx; clear hx))
      | (go_at_call 38; go_must (refine (sqrt_c _ _).mono ?_; rintro e w2 ⟨r3, rfl, hr3, hx⟩; replace hw := hw.trans (bareN hx rfl rfl rfl rfl); replace hb1 := hb1.ext (bareN hx rfl rfl rfl rfl); clear hx; have kc := hb1.cell; rw [hr2] at hr3; have o1 := HO.out r3 hr3))
      | (with_reducible refine upon_fl rfl ?_; intro r n hr))
    go_ret
    refine ⟨_, rfl, ?_, by repeat (first | exact hw | refine Ext.drewN ?_ _)⟩
    unfold upP upQ
    rw [if_pos HZ.out]
    simp only [*, fbin]
  · have HO : Hid (∀ r, can r = fsqrt (eccP f) → (FloatKind.f64.format.order r 0 != some .eq) = true) := Lib.hid (by
      intro r hr
      have hz' := hz
      rw [← hr, order_canZ] at hz'
      have : ¬ FloatKind.f64.format.order r 0 = some .eq := hz'
      simpa using this)
    have HZ := Lib.hid hz
    clear hz
    go_wp2_with (first
      | (go_at_call 48; refine (sincos_c _ _).mono ?_; rintro e w' ⟨rfl, rfl⟩)
      | (go_at_call 72; go_must (refine (squareOf_c a f _).mono ?_; rintro e w2 ⟨r2, rfl, hr2, hx⟩; obtain ⟨hb1, hw⟩ := ext1 hx; clear hx))
      | (go_at_call 38; go_must (refine (sqrt_c _ _).mono ?_; rintro e w2 ⟨r3, rfl, hr3, hx⟩; replace hw := hw.trans (bareN hx rfl rfl rfl rfl); replace hb1 := hb1.ext (bareN hx rfl rfl rfl rfl); clear hx; have kc := hb1.cell; rw [hr2] at hr3; have o1 := HO.out r3 hr3))
      | (go_at_call 73; go_must (refine (less_c _ _ _ _).mono ?_; rintro e w2 ⟨r5, rfl, hr5, hx⟩; replace hw := hw.trans (bareN hx rfl rfl rfl rfl); replace hb1 := hb1.ext (bareN hx rfl rfl rfl rfl); clear kc; have kc := hb1.cell; clear hx))
      | (go_at_call 74; go_must (refine (tanhBack_c _ _).mono ?_; rintro e w2 ⟨r6, rfl, hr6, hx⟩; replace hw := hw.trans (bareN hx rfl rfl rfl rfl); replace hb1 := hb1.ext (bareN hx rfl rfl rfl rfl); clear kc; have kc := hb1.cell; clear hx))
      | (with_reducible refine upon_fl rfl ?_; intro r n hr))
    go_ret
    refine ⟨_, rfl, ?_, by repeat (first | exact hw | refine Ext.drewN ?_ _)⟩
    unfold upP upQ
    rw [if_neg HZ.out]
    simp only [*, fbin]
end Go.Proofs.YtopedblojfnlnaaGreatDoor
