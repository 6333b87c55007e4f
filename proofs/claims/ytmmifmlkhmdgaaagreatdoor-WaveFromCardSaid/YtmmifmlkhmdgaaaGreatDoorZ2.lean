/- The walk of the statement FlatStretch. -/
import Derived.Test.YtmmifmlkhmdgaaaGreatDoorZ1
namespace Go.Proofs.YtmmifmlkhmdgaaaGreatDoor
open Go.RowKit Go.Fp Go.Rel
set_option maxRecDepth 20000

theorem can_zero {x : Nat} (h : can x = 0) : x = 0 := by
  cases hn : isNan x with
  | false => rw [can_of_not hn] at h; exact h
  | true => rw [can_of_nan hn] at h; exact absurd h (by decide)
def isStr (A : Nat → Addr) (k : Int) (X Y : Nat) (v : Value) : Prop := ∃ x y u, v = .tuple #[.float .f64 x, .float .f64 y, u] ∧ ErrOf A k u ∧ can x = X ∧ can y = Y
theorem StrR.call {P : Program} {f : FuncId} {args : Array Value} {A : Nat → Addr} {k : Int} {X Y : Nat} {W : World} (h : Calls P f args W (StrR A k X Y W)) : Calls P f args W (fun e w' => ∃ v, e = .returned v ∧ isStr A k X Y v ∧ Ext W w') :=
  h.mono fun _ _ ⟨x, y, u, he, hu, hx, hy, hw⟩ => ⟨_, he, ⟨x, y, u, rfl, hu, hx, hy⟩, hw⟩
end Go.Proofs.YtmmifmlkhmdgaaaGreatDoor
