/- Walks: the isometric latitude of the reference. -/
import Derived.Test.YtmmifmlkhmdgaaaGreatDoorHI
import Derived.Test.YtmmifmlkhmdgaaaGreatDoorZG
namespace Go.Proofs.YtmmifmlkhmdgaaaGreatDoor
open Go.RowKit Go.Fp Go.Rel
set_option maxRecDepth 20000

set_option maxHeartbeats 4000000 in
theorem tanhBack_c (x : Nat) (w : World) : Calls Tryz.prog 78 #[.float .f64 x] w (FlR (lnR (can x)) w) := by
  unfold lnR
  go_enter Tryz.func78, Tryz.ntmps78
  go_wp2_with (first
    | (go_at_call 72; go_must (refine (lnOf_c _ _).mono ?_; rintro e w1 ⟨l, rfl, hl, hx⟩; have hw : Ext w w1 := bareN hx rfl rfl rfl rfl; clear hx))
    | (with_reducible refine upon_fl rfl ?_; intro r n hr))
  go_ret
  refine ⟨_, rfl, ?_, by repeat (first | exact hw | refine Ext.drewN ?_ _)⟩
  rw [← lnP_can] at hl
  simp only [*, fbin]

def SpGlI (g : Nat → Nat → Int → Nat) (args : Array Value) (v : Value) : Prop := ∃ (a f : Nat) (l : Int), args = #[globeV a f, .int .i64 l] ∧ isFl (g a f l) v
theorem spGlI_iff (g : Nat → Nat → Int → Nat) (a f : Nat) (l : Int) (v : Value) : SpGlI g #[.agg #[.float .f64 a, .float .f64 f], .int .i64 l] v ↔ isFl (g a f l) v := by
  unfold SpGlI
  exact ⟨fun ⟨_, _, _, h, k⟩ => by simp at h; obtain ⟨⟨rfl, rfl⟩, rfl⟩ := h; exact k, fun h => ⟨_, _, _, rfl, h⟩⟩

set_option maxHeartbeats 4000000 in
theorem isoOf_c (a f : Nat) (lat : Int) (w : World) : Calls Tryz.prog 52 #[globeV a f, .int .i64 lat] w (FlR (isoP f lat) w) := by
  unfold isoP
  go_enter Tryz.func52, Tryz.ntmps52
  go_wp2_with (first
    | (go_at_call 39; refine (sincos_c _ _).mono ?_; rintro e w' ⟨rfl, rfl⟩)
    | (go_at_call 76; go_must (refine (squareOf_c a f _).mono ?_; rintro e w2 ⟨r2, rfl, hr2, hx⟩; obtain ⟨hb1, hw⟩ := ext1 hx; clear hx))
    | (go_at_call 28; go_must (refine (sqrt_c _ _).mono ?_; rintro e w3 ⟨r3, rfl, hr3, hx⟩; replace hw := hw.trans (bareN hx rfl rfl rfl rfl); clear hx))
    | (go_at_call 78; go_must (refine (tanhBack_c _ _).mono ?_; rintro e w4 ⟨r4, rfl, hr4, hx⟩; replace hw := hw.trans (bareN hx rfl rfl rfl rfl); clear hx))
    | (go_at_call 77; go_must (refine (less_c _ _ _ _).mono ?_; rintro e w5 ⟨r5, rfl, hr5, hx⟩; replace hw := hw.trans (bareN hx rfl rfl rfl rfl); clear hx))
    | (with_reducible refine upon_fl rfl ?_; intro r n hr))
  go_ret
  refine ⟨_, rfl, ?_, by repeat (first | exact hw | refine Ext.drewN ?_ _)⟩
  simp only [*, fbin]
end Go.Proofs.YtmmifmlkhmdgaaaGreatDoor
