/- Walks: how far a latitude is from the pole, and how far up it is, on paper: package flat's and the reference's. -/
import Derived.Test.YtmmifmlkhmdgaaaGreatDoorY1
import Derived.Test.YtmmifmlkhmdgaaaGreatDoorY2
namespace Go.Proofs.YtmmifmlkhmdgaaaGreatDoor
open Go.RowKit Go.Fp Go.Rel
set_option maxRecDepth 20000

abbrev kOne : Nat := 4607182418800017408
abbrev kTwo : Nat := 4611686018427387904
def poleP (f : Nat) : Nat := expP (fdiv (fadd (fmul (fadd (can kOne) (fsqrt (eccP f))) (can (lnP (fadd (can kOne) (fsqrt (eccP f)))))) (fmul (fsub (can kOne) (fsqrt (eccP f))) (can (lnP (fsub (can kOne) (fsqrt (eccP f))))))) (can kTwo))
def downP (a f sc : Nat) (lat : Int) : Nat := fdiv (fmul (fmul (can kTwo) (fmul (can a) (can sc))) (expP (negC (isoP f lat)))) (poleP f)
def upQ (f : Nat) (lat : Int) : Nat := if D.order (fsqrt (eccP f)) 0 = some .eq then fmul (can kTwo) (can (sinP lat)) else
  fmul (fsub (can kOne) (eccP f)) (fadd (fdiv (can (sinP lat)) (fsub (can kOne) (fmul (fmul (eccP f) (can (sinP lat))) (can (sinP lat))))) (fdiv (lnR (fmul (fsqrt (eccP f)) (can (sinP lat)))) (fmul (can kTwo) (fsqrt (eccP f)))))
def upP (a f sc : Nat) (lat : Int) : Nat := fdiv (fmul (fdiv (can a) (can sc)) (upQ f lat)) (can kTwo)

def SpPap (g : Nat → Nat → Nat → Nat) (args : Array Value) (v : Value) : Prop := ∃ (a f : Nat) (s : ByteArray) (mid : Int) (sc : Nat), args = #[paperV a f s mid sc] ∧ isFl (g a f sc) v
theorem spPap_iff (g : Nat → Nat → Nat → Nat) (a f : Nat) (s : ByteArray) (mid : Int) (sc : Nat) (v : Value) : SpPap g #[paperV a f s mid sc] v ↔ isFl (g a f sc) v := by
  unfold SpPap
  exact ⟨fun ⟨_, _, _, _, _, h, k⟩ => by simp at h; obtain ⟨rfl, rfl, _, _, rfl⟩ := h; exact k, fun h => ⟨_, _, _, _, _, rfl, h⟩⟩
def SpPapI (g : Nat → Nat → Nat → Int → Nat) (args : Array Value) (v : Value) : Prop := ∃ (a f : Nat) (s : ByteArray) (mid : Int) (sc : Nat) (l : Int), args = #[paperV a f s mid sc, .int .i64 l] ∧ isFl (g a f sc l) v
theorem spPapI_iff (g : Nat → Nat → Nat → Int → Nat) (a f : Nat) (s : ByteArray) (mid : Int) (sc : Nat) (l : Int) (v : Value) : SpPapI g #[paperV a f s mid sc, .int .i64 l] v ↔ isFl (g a f sc l) v := by
  unfold SpPapI
  exact ⟨fun ⟨_, _, _, _, _, _, h, k⟩ => by simp at h; obtain ⟨⟨rfl, rfl, _, _, rfl⟩, rfl⟩ := h; exact k, fun h => ⟨_, _, _, _, _, _, rfl, h⟩⟩

/-- what the functions that regions call hand back -/
def FU (g : FuncId) (args : Array Value) (v : Value) : Prop :=
  (g = 27 ∧ SpIntN (fun a => .float .f64 (sinP a)) args v) ∨ (g = 25 ∧ SpIntN (fun a => .float .f64 (cosP a)) args v) ∨
  (g = 75 ∧ SpGl (fun _ f => eccP f) args v) ∨ (g = 76 ∧ SpGl (fun _ f => eccP f) args v) ∨
  (g = 28 ∧ SpOne fsqrt args v) ∨ (g = 77 ∧ SpTri (fun x y z => fsub x (fmul y z)) args v) ∨ (g = 40 ∧ SpTri (fun x y z => fadd x (fmul y z)) args v) ∨
  (g = 64 ∧ SpOne (fun x => can (lnP x)) args v) ∨ (g = 72 ∧ SpOne (fun x => can (lnP x)) args v) ∨
  (g = 56 ∧ SpOne expP args v) ∨ (g = 38 ∧ SpOne expP args v) ∨ (g = 78 ∧ SpOne lnR args v) ∨
  (g = 63 ∧ SpGlI (fun _ f l => isoP f l) args v) ∨ (g = 52 ∧ SpGlI (fun _ f l => isoP f l) args v) ∨
  (g = 51 ∧ SpGlI crossP args v) ∨ (g = 53 ∧ SpGlI crossP args v) ∨ (g = 89 ∧ SpPapI upP args v)
theorem lnC_c (x : Nat) (w : World) : Calls Tryz.prog 64 #[.float .f64 x] w (FlR (can (lnP (can x))) w) := by rw [lnP_can]; exact ln_c x w
theorem lnOfC_c (x : Nat) (w : World) : Calls Tryz.prog 72 #[.float .f64 x] w (FlR (can (lnP (can x))) w) := by rw [lnP_can]; exact lnOf_c x w
theorem expC_c (x : Nat) (w : World) : Calls Tryz.prog 56 #[.float .f64 x] w (FlR (expP (can x)) w) := by rw [expP_can]; exact exp_c x w
theorem expOfC_c (x : Nat) (w : World) : Calls Tryz.prog 38 #[.float .f64 x] w (FlR (expP (can x)) w) := by rw [expP_can]; exact expOf_c x w

set_option maxHeartbeats 8000000 in
theorem upOf_c (a f : Nat) (s : ByteArray) (mid : Int) (sc : Nat) (lat : Int) (w : World) : Calls Tryz.prog 89 #[paperV a f s mid sc, .int .i64 lat] w (FlR (upP a f sc lat) w) := by
  go_enter Tryz.func89, Tryz.ntmps89
  by_cases hz : D.order (fsqrt (eccP f)) 0 = some .eq
  · have HO : Hid (∀ r, can r = fsqrt (eccP f) → (FloatKind.f64.format.order r 0 != some .eq) = false) := Lib.hid (by
      intro r hr
      have hz' := hz
      rw [← hr, order_canZ] at hz'
      have : FloatKind.f64.format.order r 0 = some .eq := hz'
      rw [this]; rfl)
    have HZ := Lib.hid hz
    clear hz
    go_wp2_with (first
      | (go_at_call 39; refine (sincos_c _ _).mono ?_; rintro e w' ⟨rfl, rfl⟩)
      | (go_at_call 76; go_must (refine (squareOf_c a f _).mono ?_; rintro e w2 ⟨r2, rfl, hr2, hx⟩; obtain ⟨hb1, hw⟩ := ext1 hx; clear hx))
      | (go_at_call 28; go_must (refine (sqrt_c _ _).mono ?_; rintro e w2 ⟨r3, rfl, hr3, hx⟩; replace hw := hw.trans (bareN hx rfl rfl rfl rfl); replace hb1 := hb1.ext (bareN hx rfl rfl rfl rfl); clear hx; have kc := hb1.cell; rw [hr2] at hr3; have o1 := HO.out r3 hr3))
      | (with_reducible refine upon_fl rfl ?_; intro r n hr))
    go_ret
    refine ⟨_, rfl, ?_, by repeat (first | exact hw | refine Ext.drewN ?_ _)⟩
    unfold upP upQ
    rw [if_pos HZ.out]
    simp only [*, fbin]
  · have HO : Hid (∀ r, can r = fsqrt (eccP f) → (FloatKind.f64.format.order r 0 != some .eq) = true) := Lib.hid (by
      intro r hr
      have hz' := hz
      rw [← hr, order_canZ] at hz'
      have : ¬ FloatKind.f64.format.order r 0 = some .eq := hz'
      simpa using this)
    have HZ := Lib.hid hz
    clear hz
    go_wp2_with (first
      | (go_at_call 39; refine (sincos_c _ _).mono ?_; rintro e w' ⟨rfl, rfl⟩)
      | (go_at_call 76; go_must (refine (squareOf_c a f _).mono ?_; rintro e w2 ⟨r2, rfl, hr2, hx⟩; obtain ⟨hb1, hw⟩ := ext1 hx; clear hx))
      | (go_at_call 28; go_must (refine (sqrt_c _ _).mono ?_; rintro e w2 ⟨r3, rfl, hr3, hx⟩; replace hw := hw.trans (bareN hx rfl rfl rfl rfl); replace hb1 := hb1.ext (bareN hx rfl rfl rfl rfl); clear hx; have kc := hb1.cell; rw [hr2] at hr3; have o1 := HO.out r3 hr3))
      | (go_at_call 77; go_must (refine (less_c _ _ _ _).mono ?_; rintro e w2 ⟨r5, rfl, hr5, hx⟩; replace hw := hw.trans (bareN hx rfl rfl rfl rfl); replace hb1 := hb1.ext (bareN hx rfl rfl rfl rfl); clear kc; have kc := hb1.cell; clear hx))
      | (go_at_call 78; go_must (refine (tanhBack_c _ _).mono ?_; rintro e w2 ⟨r6, rfl, hr6, hx⟩; replace hw := hw.trans (bareN hx rfl rfl rfl rfl); replace hb1 := hb1.ext (bareN hx rfl rfl rfl rfl); clear kc; have kc := hb1.cell; clear hx))
      | (with_reducible refine upon_fl rfl ?_; intro r n hr))
    go_ret
    refine ⟨_, rfl, ?_, by repeat (first | exact hw | refine Ext.drewN ?_ _)⟩
    unfold upP upQ
    rw [if_neg HZ.out]
    simp only [*, fbin]
end Go.Proofs.YtmmifmlkhmdgaaaGreatDoor
