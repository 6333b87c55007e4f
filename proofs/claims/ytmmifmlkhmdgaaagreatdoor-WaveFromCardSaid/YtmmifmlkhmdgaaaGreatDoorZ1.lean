/- Walks: how much longer things are on paper: package flat's and the reference's. -/
import Derived.Test.YtmmifmlkhmdgaaaGreatDoorY7
namespace Go.Proofs.YtmmifmlkhmdgaaaGreatDoor
open Go.RowKit Go.Fp Go.Rel
set_option maxRecDepth 20000

def wQ (f : Nat) (lat : Int) : Nat := fsub (can kOne) (fmul (fmul (eccP f) (can (sinP lat))) (can (sinP lat)))
def mQ (a f : Nat) (lat : Int) : Nat := fdiv (fmul (can a) (fsub (can kOne) (eccP f))) (fmul (wQ f lat) (fsqrt (wQ f lat)))
def rQ (n a f sc : Nat) (lat : Int) : Nat := if n = 2 then downP a f sc lat else fmul (can a) (can sc)
def acP (n a f sc : Nat) (lat : Int) : Nat := fdiv (rQ n a f sc lat) (fmul (crossP a f lat) (can (cosP lat)))
def alP (n a f sc : Nat) (lat : Int) : Nat := if n = 1 then fdiv (can kOne) (acP n a f sc lat) else fdiv (fdiv (fmul (rQ n a f sc lat) (fsub (can kOne) (eccP f))) (fmul (wQ f lat) (can (cosP lat)))) (mQ a f lat)
def StrR (A : Nat → Addr) (k : Int) (X Y : Nat) (w : World) (e : Ending) (w' : World) : Prop := ∃ x y v, e = .returned (.tuple #[.float .f64 x, .float .f64 y, v]) ∧ ErrOf A k v ∧ can x = X ∧ can y = Y ∧ Ext w w'
def StrQ (X Y : Nat) (w : World) (e : Ending) (w' : World) : Prop := ∃ x y, e = .returned (.tuple #[.float .f64 x, .float .f64 y]) ∧ can x = X ∧ can y = Y ∧ Ext w w'

end Go.Proofs.YtmmifmlkhmdgaaaGreatDoor
