/- Walks: globes: the radius across the meridian, the program's and the reference's. -/
import Derived.Test.YtegbkidjehjhmaaDoorV1
import Derived.Test.YtegbkidjehjhmaaDoorG3
import Derived.Test.YtegbkidjehjhmaaDoorR2
namespace Go.Proofs.YtegbkidjehjhmaaDoor
open Go.RowKit Go.Fp Go.Rel
set_option maxRecDepth 20000

def crossP (a f : Nat) (lat : Int) : Nat := fdiv (can a) (fsqrt (fsub (can 4607182418800017408) (fmul (fmul (eccP f) (can (sinP lat))) (can (sinP lat)))))

/-- of a call with a globe: a number that comes of it -/
def SpGl (g : Nat → Nat → Nat) (args : Array Value) (v : Value) : Prop := ∃ a f : Nat, args = #[globeV a f] ∧ isFl (g a f) v
theorem spGl_iff (g : Nat → Nat → Nat) (a f : Nat) (v : Value) : SpGl g #[globeV a f] v ↔ isFl (g a f) v := by
  unfold SpGl
  exact ⟨fun ⟨_, _, h, k⟩ => by simp at h; obtain ⟨rfl, rfl⟩ := h; exact k, fun h => ⟨_, _, rfl, h⟩⟩
theorem spGl_iff' (g : Nat → Nat → Nat) (a f : Nat) (v : Value) : SpGl g #[.agg #[.float .f64 a, .float .f64 f]] v ↔ isFl (g a f) v := spGl_iff g a f v

end Go.Proofs.YtegbkidjehjhmaaDoor
