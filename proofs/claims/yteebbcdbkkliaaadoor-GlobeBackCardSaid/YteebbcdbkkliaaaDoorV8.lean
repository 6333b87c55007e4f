/- Walks: the vector of a place on a globe, the reference's. -/
import Derived.Test.YteebbcdbkkliaaaDoorV7
namespace Go.Proofs.YteebbcdbkkliaaaDoor
open Go.RowKit Go.Fp Go.Rel
set_option maxRecDepth 20000

def VecQ (X Y Z : Nat) (k : Int) (w : World) (e : Ending) (w' : World) : Prop :=
  ∃ x y z, e = .returned (.tuple #[vecV x y z, .int .i64 k]) ∧ can x = X ∧ can y = Y ∧ can z = Z ∧ Ext w w'

theorem vec_c {A : Nat → Addr} {a f : Nat} {lon lat : Int} {high x y z : Nat} {k : Int} (h : VecIs a f lon lat high x y z k) (w : World) (h8 : World8 A w) :
    Calls Tryd.prog 7 #[globeV a f, placeV lon lat, .float .f64 high] w (VecR A x y z k w) := by
  cases h with
  | shape h => exact vec_shape a f lon lat high w h8 h
  | range1 h h1 => exact vec_range a f lon lat high w h8 h (.inl h1)
  | range2 h h1 h2 => exact vec_range a f lon lat high w h8 h (.inr (.inl ⟨h1, h2⟩))
  | range3 h h1 h2 h3 => exact vec_range a f lon lat high w h8 h (.inr (.inr ⟨h1, h2, h3⟩))
  | ok h h1 h2 h3 => exact vec_ok a f lon lat high w h8 h h1 h2 h3
end Go.Proofs.YteebbcdbkkliaaaDoor
