/- Walks: the vector of a place on a globe, the program's and the reference's. -/
import Derived.Test.YtegbkidjehjhmaaDoorV5
namespace Go.Proofs.YtegbkidjehjhmaaDoor
open Go.RowKit Go.Fp Go.Rel
set_option maxRecDepth 20000

theorem btw_true {x lo hi : Nat} (h : btw x lo hi = true) : (FloatKind.f64.format.order x lo = some .gt ∨ FloatKind.f64.format.order x lo = some .eq) ∧ (FloatKind.f64.format.order x hi = some .lt ∨ FloatKind.f64.format.order x hi = some .eq) := by
  have hD : FloatKind.f64.format = D := rfl
  rw [hD]
  simpa [btw, fge, fle] using h
theorem btw_false {x lo hi : Nat} (h : btw x lo hi = false) : (FloatKind.f64.format.order x lo = none ∨ FloatKind.f64.format.order x lo = some .lt) ∨
    (FloatKind.f64.format.order x lo = some .gt ∨ FloatKind.f64.format.order x lo = some .eq) ∧ (FloatKind.f64.format.order x hi = none ∨ FloatKind.f64.format.order x hi = some .gt) := by
  have hD : FloatKind.f64.format = D := rfl
  rw [hD]
  simp only [btw, fge, fle, Bool.and_eq_false_iff, Bool.or_eq_false_iff, beq_eq_false_iff_ne] at h
  rcases h1 : D.order x lo with _ | (_ | _ | _) <;> rcases h2 : D.order x hi with _ | (_ | _ | _) <;> simp_all

abbrev cLo : Nat := 13935002356576944128
abbrev cHi : Nat := 4741671816366391296
abbrev cOne : Nat := 4607182418800017408
def vecD (a f : Nat) (lat : Int) (high : Nat) : Nat := fmul (fadd (crossP a f lat) (can high)) (can (cosP lat))
def vecZ (a f : Nat) (lat : Int) (high : Nat) : Nat := fmul (fadd (fmul (crossP a f lat) (fsub (can cOne) (eccP f))) (can high)) (can (sinP lat))

/-- the vector of a place, or the error's number -/
inductive VecIs (a f : Nat) (lon lat : Int) (high : Nat) : Nat → Nat → Nat → Int → Prop
  | shape (h : okG a f = false) : VecIs a f lon lat high 0 0 0 3
  | range1 (h : okG a f = true) (h1 : 90000000000 < lat) : VecIs a f lon lat high 0 0 0 4
  | range2 (h : okG a f = true) (h1 : lat ≤ 90000000000) (h2 : lat < -90000000000) : VecIs a f lon lat high 0 0 0 4
  | range3 (h : okG a f = true) (h1 : lat ≤ 90000000000) (h2 : -90000000000 ≤ lat) (h3 : btw high cLo cHi = false) : VecIs a f lon lat high 0 0 0 4
  | ok (h : okG a f = true) (h1 : lat ≤ 90000000000) (h2 : -90000000000 ≤ lat) (h3 : btw high cLo cHi = true) :
    VecIs a f lon lat high (fmul (vecD a f lat high) (can (cosP lon))) (fmul (vecD a f lat high) (can (sinP lon))) (vecZ a f lat high) 0
theorem vec_some (a f : Nat) (lon lat : Int) (high : Nat) : ∃ x y z k, VecIs a f lon lat high x y z k := by
  cases h : okG a f
  · exact ⟨_, _, _, _, .shape h⟩
  rcases Int.lt_or_le 90000000000 lat with h1 | h1
  · exact ⟨_, _, _, _, .range1 h h1⟩
  rcases Int.lt_or_le lat (-90000000000) with h2 | h2
  · exact ⟨_, _, _, _, .range2 h h1 h2⟩
  cases h3 : btw high cLo cHi
  · exact ⟨_, _, _, _, .range3 h h1 h2 h3⟩
  · exact ⟨_, _, _, _, .ok h h1 h2 h3⟩

abbrev placeV (lon lat : Int) : Value := .agg #[.int .i64 lon, .int .i64 lat]
def VecR (A : Nat → Addr) (X Y Z : Nat) (k : Int) (w : World) (e : Ending) (w' : World) : Prop :=
  ∃ x y z v, e = .returned (.tuple #[vecV x y z, v]) ∧ can x = X ∧ can y = Y ∧ can z = Z ∧ ErrOf A k v ∧ Ext w w'

theorem can0 : can 0 = 0 := can_of_not (by decide +kernel)

/-- of a call with one integer: what it hands back -/
def SpInt (f : Int → Value) (args : Array Value) (v : Value) : Prop := ∃ a : Int, args = #[.int .i64 a] ∧ v = f a
theorem spInt_iff (f : Int → Value) (a : Int) (v : Value) : SpInt f #[.int .i64 a] v ↔ v = f a := by
  unfold SpInt
  exact ⟨fun ⟨_, h, k⟩ => by simp at h; obtain rfl := h; exact k, fun h => ⟨_, rfl, h⟩⟩

/-- why a place or a height is refused -/
def RangeV (lat : Int) (high : Nat) : Prop := 90000000000 < lat ∨ (lat ≤ 90000000000 ∧ lat < -90000000000) ∨ (lat ≤ 90000000000 ∧ -90000000000 ≤ lat ∧ btw high cLo cHi = false)

end Go.Proofs.YtegbkidjehjhmaaDoor
