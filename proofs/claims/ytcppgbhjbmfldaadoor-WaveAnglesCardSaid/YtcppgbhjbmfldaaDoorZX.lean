/- Walks: the numbers of a series of a globe that is none. -/
import Derived.Test.YtcppgbhjbmfldaaDoorZW
namespace Go.Proofs.YtcppgbhjbmfldaaDoor
open Go.RowKit Go.Fp Go.Rel
set_option maxRecDepth 20000

end Go.Proofs.YtcppgbhjbmfldaaDoor

/- Walks: a place that is on no strip: package wave's look, To and Turned, the reference's TurnednessOf. -/
namespace Go.Proofs.YtcppgbhjbmfldaaDoor
open Go.RowKit Go.Fp Go.Rel
set_option maxRecDepth 20000

/-- an error of a number that is not none -/
def BadR (A : Nat → Addr) (K : Int) (f : Value → Value) (w : World) (e : Ending) (w' : World) : Prop := ∃ v, e = .returned (f v) ∧ ErrOf A K v ∧ v ≠ .nilIface ∧ Ext w w'
/-- the error value that a bad place brings -/
def BadAt (A : Nat → Addr) (K : Int) (g : Nat) : Prop := ErrOf A K (errV (A g))

end Go.Proofs.YtcppgbhjbmfldaaDoor

/- Walk: a place's point on a strip, the reference's. -/
namespace Go.Proofs.YtcppgbhjbmfldaaDoor
open Go.RowKit Go.Fp Go.Rel
set_option maxRecDepth 20000

def isPair (X Y : Nat) (v : Value) : Prop := ∃ x y, v = .agg #[.float .f64 x, .float .f64 y] ∧ can x = X ∧ can y = Y
theorem PairR.call {P : Program} {f : FuncId} {args : Array Value} {X Y : Nat} {W : World} (h : Calls P f args W (PairR X Y W)) : Calls P f args W (fun e w' => ∃ v, e = .returned v ∧ isPair X Y v ∧ Ext W w') :=
  h.mono fun _ _ ⟨x, y, he, hx, hy, hw⟩ => ⟨_, he, ⟨x, y, rfl, hx, hy⟩, hw⟩
def SpPP (args : Array Value) (v : Value) : Prop := ∃ zr zi f wr wi : Nat, args = #[.agg #[.float .f64 zr, .float .f64 zi], .float .f64 f, .agg #[.float .f64 wr, .float .f64 wi]] ∧ isPair (fadd (can zr) (fmul (can f) (can wr))) (fadd (can zi) (fmul (can f) (can wi))) v
end Go.Proofs.YtcppgbhjbmfldaaDoor

/- Walk: how much longer and turned things are on a strip, the reference's. -/
namespace Go.Proofs.YtcppgbhjbmfldaaDoor
open Go.RowKit Go.Fp Go.Rel
set_option maxRecDepth 20000

theorem bis_in (p : Int → Bool) : ∀ (n : Nat) (lo hi : Int), lo ≤ hi → lo ≤ bis p n lo hi ∧ bis p n lo hi ≤ hi
  | 0, lo, hi, h => ⟨Int.le_refl _, h⟩
  | n + 1, lo, hi, h => by
    unfold bis
    split
    · split
      · have := bis_in p n ((lo + hi) / 2) hi (by omega); omega
      · have := bis_in p n lo ((lo + hi) / 2) (by omega); omega
    · omega
theorem quad_in (u w : Nat) : 0 ≤ quad u w ∧ quad u w ≤ 90000000001 := by
  unfold quad bisect
  exact bis_in _ _ _ _ (by decide)
theorem angle_in (y x : Nat) : 0 ≤ (angleP y x).1 ∧ (angleP y x).1 ≤ 360000000000 := by
  have hq := quad_in (absW x) (absW y)
  have hn := norm_range (360000000000 - quad (absW x) (absW y))
  unfold angleP
  split
  · simp
  · simp only []
    split
    · simp only []; omega
    · split
      · simp only []; omega
      · split
        · simp only []; omega
        · simp only []; omega

/-- a place of the series of the turn -/
def tRe (T : Nat → List Nat) (c f : Nat) (u : Int) (V : Nat) : Nat → Nat
  | 0 => w1S
  | k + 1 => fadd (tRe T c f u V k) (fmul (fmul (can (floatOfInt .f64 (2 * ((k : Int) + 1)))) (rowS T c f k)) (cosRe (2 * ((k : Int) + 1) * u) (fmul (can (floatOfInt .f64 (2 * ((k : Int) + 1)))) V)))
def tIm (T : Nat → List Nat) (c f : Nat) (u : Int) (V : Nat) : Nat → Nat
  | 0 => 0
  | k + 1 => fadd (tIm T c f u V k) (fmul (fmul (can (floatOfInt .f64 (2 * ((k : Int) + 1)))) (rowS T c f k)) (cosIm (2 * ((k : Int) + 1) * u) (fmul (can (floatOfInt .f64 (2 * ((k : Int) + 1)))) V)))
/-- how much longer, and turned -/
def turnM (a f sc : Nat) (lat d u : Int) (T V : Nat) : Nat :=
  fdiv (fmul (fmul (radS a f) (can sc)) (fsqrt (fadd (fmul (tRe tabA cA4 f u V 4) (tRe tabA cA4 f u V 4)) (fmul (tIm tabA cA4 f u V 4) (tIm tabA cA4 f u V 4)))))
    (fmul (fmul (crossP a f lat) (can (cosP lat))) (fsqrt (fadd (fmul T T) (fmul (can (cosP d)) (can (cosP d))))))
def turnA (f : Nat) (d u : Int) (T V : Nat) : Int :=
  signP ((angleP (fmul T (can (sinP d))) (fmul (fsqrt (fadd (can w1S) (fmul T T))) (can (cosP d)))).1 - (angleP (tIm tabA cA4 f u V 4) (tRe tabA cA4 f u V 4)).1)
theorem ang_wrap (y x y' x' : Nat) : IntKind.i64.wrap ((angleP y x).1 - (angleP y' x').1) = (angleP y x).1 - (angleP y' x').1 :=
  IntWalk.i64_in _ ⟨by have := angle_in y x; have := angle_in y' x'; omega, by have := angle_in y x; have := angle_in y' x'; omega⟩
def SpSqrt (args : Array Value) (v : Value) : Prop := ∃ x : Nat, args = #[.float .f64 x] ∧ isFl (fsqrt (can x)) v
theorem spSqrt_iff (x : Nat) (v : Value) : SpSqrt #[.float .f64 x] v ↔ isFl (fsqrt (can x)) v := by
  unfold SpSqrt
  exact ⟨fun ⟨_, h, k⟩ => by simp at h; obtain rfl := h; exact k, fun h => ⟨_, rfl, h⟩⟩
def SpAng1 (args : Array Value) (v : Value) : Prop := ∃ y x : Nat, args = #[.float .f64 y, .float .f64 x] ∧ v = .int .i64 (angleP (can y) (can x)).1
end Go.Proofs.YtcppgbhjbmfldaaDoor
