/- Walks: where a place is on paper: package flat's and the reference's. -/
import Derived.Test.YtmmifmlkhmdgaaaGreatDoorY3
namespace Go.Proofs.YtmmifmlkhmdgaaaGreatDoor
open Go.RowKit Go.Fp Go.Rel
set_option maxRecDepth 20000

abbrev flatV (x y : Nat) : Value := .agg #[.float .f64 x, .float .f64 y]
def offN (mid lon : Int) : Int := normP lon - normP mid
theorem offN_wrap (mid lon : Int) : IntKind.i64.wrap (normP lon - normP mid) = offN mid lon := IntWalk.i64_in _ ⟨by have := normP_lo lon; have := normP_hi mid; omega, by have := normP_hi lon; have := normP_lo mid; omega⟩
def flatX (n a f sc : Nat) (mid lon lat : Int) : Nat := if n = 2 then fmul (downP a f sc lat) (can (sinP (offN mid lon))) else fmul (fmul (can a) (can sc)) (fmul (can (floatOfInt .f64 (signP (offN mid lon)))) (can 4445950764994258515))
def flatY (n a f sc : Nat) (mid lon lat : Int) : Nat := if n = 2 then negC (fmul (downP a f sc lat) (can (cosP (offN mid lon)))) else if n = 1 then upP a f sc lat else fmul (fmul (can a) (can sc)) (isoP f lat)
def SpNorm (f : Int → Int) (args : Array Value) (v : Value) : Prop := ∃ a : Int, args = #[.int .i64 a] ∧ v = .int .i64 (f a)
theorem spNorm_iff (f : Int → Int) (a : Int) (v : Value) : SpNorm f #[.int .i64 a] v ↔ v = .int .i64 (f a) := by
  unfold SpNorm
  exact ⟨fun ⟨_, h, k⟩ => by simp at h; obtain rfl := h; exact k, fun h => ⟨_, rfl, h⟩⟩
theorem same_call {P : Program} {f : FuncId} {args : Array Value} {v : Value} {W : World} (h : Calls P f args W (fun e w' => e = .returned v ∧ W = w')) : Calls P f args W (fun e w' => ∃ u, e = .returned u ∧ u = v ∧ Ext W w') :=
  h.mono fun _ _ ⟨he, hx⟩ => ⟨_, he, rfl, hx ▸ Ext.refl _⟩

def FlatR (A : Nat → Addr) (k : Int) (X Y : Nat) (w : World) (e : Ending) (w' : World) : Prop := ∃ x y v, e = .returned (.tuple #[flatV x y, v]) ∧ ErrOf A k v ∧ can x = X ∧ can y = Y ∧ Ext w w'
def FlatQ (X Y : Nat) (w : World) (e : Ending) (w' : World) : Prop := ∃ x y, e = .returned (flatV x y) ∧ can x = X ∧ can y = Y ∧ Ext w w'

theorem setCell_other' (w : World) (n i k : Nat) (v : Value) (h : k ≠ n) : (w.setCell ⟨n, i, none⟩ v).heap[k]? = w.heap[k]? := Below.heap_setCell _ _ _ _ h
def FT (g : FuncId) (args : Array Value) (v : Value) : Prop := FU g args v ∨ (g = 30 ∧ SpNorm normP args v) ∨ (g = 43 ∧ SpNorm normP args v) ∨ (g = 29 ∧ SpNorm signP args v) ∨ (g = 41 ∧ SpNorm signP args v)
end Go.Proofs.YtmmifmlkhmdgaaaGreatDoor
