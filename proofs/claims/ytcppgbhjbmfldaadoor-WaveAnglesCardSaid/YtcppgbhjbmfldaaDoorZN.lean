/- Walks: how much longer things are on paper: package flat's and the reference's. -/
import Derived.Test.YtcppgbhjbmfldaaDoorZM
namespace Go.Proofs.YtcppgbhjbmfldaaDoor
open Go.RowKit Go.Fp Go.Rel
set_option maxRecDepth 20000

def wQ (f : Nat) (lat : Int) : Nat := fsub (can kOne) (fmul (fmul (eccP f) (can (sinP lat))) (can (sinP lat)))
def mQ (a f : Nat) (lat : Int) : Nat := fdiv (fmul (can a) (fsub (can kOne) (eccP f))) (fmul (wQ f lat) (fsqrt (wQ f lat)))
def rQ (n a f sc : Nat) (lat : Int) : Nat := if n = 2 then downP a f sc lat else fmul (can a) (can sc)
def acP (n a f sc : Nat) (lat : Int) : Nat := fdiv (rQ n a f sc lat) (fmul (crossP a f lat) (can (cosP lat)))
def alP (n a f sc : Nat) (lat : Int) : Nat := if n = 1 then fdiv (can kOne) (acP n a f sc lat) else fdiv (fdiv (fmul (rQ n a f sc lat) (fsub (can kOne) (eccP f))) (fmul (wQ f lat) (can (cosP lat)))) (mQ a f lat)
def StrR (A : Nat → Addr) (k : Int) (X Y : Nat) (w : World) (e : Ending) (w' : World) : Prop := ∃ x y v, e = .returned (.tuple #[.float .f64 x, .float .f64 y, v]) ∧ ErrOf A k v ∧ can x = X ∧ can y = Y ∧ Ext w w'
def StrQ (X Y : Nat) (w : World) (e : Ending) (w' : World) : Prop := ∃ x y, e = .returned (.tuple #[.float .f64 x, .float .f64 y]) ∧ can x = X ∧ can y = Y ∧ Ext w w'

end Go.Proofs.YtcppgbhjbmfldaaDoor

/- The walk of the statement FlatStretch. -/
namespace Go.Proofs.YtcppgbhjbmfldaaDoor
open Go.RowKit Go.Fp Go.Rel
set_option maxRecDepth 20000

def isStr (A : Nat → Addr) (k : Int) (X Y : Nat) (v : Value) : Prop := ∃ x y u, v = .tuple #[.float .f64 x, .float .f64 y, u] ∧ ErrOf A k u ∧ can x = X ∧ can y = Y
theorem StrR.call {P : Program} {f : FuncId} {args : Array Value} {A : Nat → Addr} {k : Int} {X Y : Nat} {W : World} (h : Calls P f args W (StrR A k X Y W)) : Calls P f args W (fun e w' => ∃ v, e = .returned v ∧ isStr A k X Y v ∧ Ext W w') :=
  h.mono fun _ _ ⟨x, y, u, he, hu, hx, hy, hw⟩ => ⟨_, he, ⟨x, y, u, rfl, hu, hx, hy⟩, hw⟩
end Go.Proofs.YtcppgbhjbmfldaaDoor

/- Walks: the greatest latitude at which a function is at most a number: package flat's found and the reference's. -/
namespace Go.Proofs.YtcppgbhjbmfldaaDoor
open Go.RowKit Go.Fp Go.Rel
set_option maxRecDepth 20000

/-- at most -/
def leW (y X : Nat) : Bool := D.order y X == some .lt || D.order y X == some .eq
/-- r is what halving finds between lo and hi -/
inductive LatIs (g : Int → Nat) (X : Nat) : Int → Int → Int → Prop
  | done {lo hi : Int} (h : hi - lo ≤ 1) : LatIs g X lo hi lo
  | low {lo hi r : Int} (h : 1 < hi - lo) (hl : leW (g ((lo + hi) / 2)) X = true) (hr : LatIs g X ((lo + hi) / 2) hi r) : LatIs g X lo hi r
  | high {lo hi r : Int} (h : 1 < hi - lo) (hl : leW (g ((lo + hi) / 2)) X = false) (hr : LatIs g X lo ((lo + hi) / 2) r) : LatIs g X lo hi r
theorem LatIs.bounds {g : Int → Nat} {X : Nat} {lo hi r : Int} (h : LatIs g X lo hi r) (hlt : lo < hi) : lo ≤ r ∧ r < hi := by
  induction h with
  | done h => omega
  | low h _ _ ih => have := ih (by omega); omega
  | high h _ _ ih => have := ih (by omega); omega
/-- the latitude of a number -/
abbrev LatOk (g : Int → Nat) (X : Nat) (r : Int) : Prop := LatIs g X (-89000000000) 89000000001 r
end Go.Proofs.YtcppgbhjbmfldaaDoor
