/- Walks: the place of a vector on a globe, where there is one. Printed by gen_place.py. -/
import Derived.Test.YteebbcdbkkliaaaDoorV9
namespace Go.Proofs.YteebbcdbkkliaaaDoor
open Go.RowKit Go.Fp Go.Rel
set_option maxRecDepth 20000

/-- of a call with two numbers: the angle of a point -/
def SpAng (args : Array Value) (v : Value) : Prop := ∃ y x : Nat, args = #[.float .f64 y, .float .f64 x] ∧ v = .int .i64 (angS (can y) (can x))
theorem spAng_iff (y x : Nat) (v : Value) : SpAng #[.float .f64 y, .float .f64 x] v ↔ v = .int .i64 (angS (can y) (can x)) := by
  unfold SpAng
  exact ⟨fun ⟨_, _, h, k⟩ => by simp at h; obtain ⟨rfl, rfl⟩ := h; exact k, fun h => ⟨_, _, rfl, h⟩⟩
theorem bareE {w w' v : World} (h : Ext w' v) (ho : w'.os = w.os) (ht : w'.tape = w.tape) (hp : w'.output = w.output) (hh : w'.heap = w.heap) : Ext w v :=
  ⟨h.os.trans ho, h.tape.trans ht, h.output.trans hp, by rw [← hh]; exact h.size, fun k hk => by rw [← hh]; exact h.block k (by rw [hh]; exact hk)⟩

end Go.Proofs.YteebbcdbkkliaaaDoor
