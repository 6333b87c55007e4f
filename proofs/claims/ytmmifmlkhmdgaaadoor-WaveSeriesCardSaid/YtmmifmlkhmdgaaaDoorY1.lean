/- Walks: the isometric latitude of the reference. -/
import Derived.Test.YtmmifmlkhmdgaaaDoorHI
import Derived.Test.YtmmifmlkhmdgaaaDoorZG
namespace Go.Proofs.YtmmifmlkhmdgaaaDoor
open Go.RowKit Go.Fp Go.Rel
set_option maxRecDepth 20000

def SpGlI (g : Nat → Nat → Int → Nat) (args : Array Value) (v : Value) : Prop := ∃ (a f : Nat) (l : Int), args = #[globeV a f, .int .i64 l] ∧ isFl (g a f l) v
theorem spGlI_iff (g : Nat → Nat → Int → Nat) (a f : Nat) (l : Int) (v : Value) : SpGlI g #[.agg #[.float .f64 a, .float .f64 f], .int .i64 l] v ↔ isFl (g a f l) v := by
  unfold SpGlI
  exact ⟨fun ⟨_, _, _, h, k⟩ => by simp at h; obtain ⟨⟨rfl, rfl⟩, rfl⟩ := h; exact k, fun h => ⟨_, _, _, rfl, h⟩⟩

end Go.Proofs.YtmmifmlkhmdgaaaDoor
