/- The model's entries that make a number whole. -/
import Derived.Test.YtegbkidjehjhmaaDoorN5
namespace Go.Proofs.YtegbkidjehjhmaaDoor
open Go.RowKit Go.Fp Go.Rel
set_option maxRecDepth 20000

/-- a number made whole -/
def intP (way : Ieee.Toward) (x : Nat) : Nat := if isNan x then QN else D.write ((D.read x).integral way)

theorem int_run {P : Program} (W : World) (nm : String) (way : Ieee.Toward) (x : Nat) (hx : isNan x = false) :
    (Extern.MathFloor.toIntegral nm way #[.float .f64 x]).run P W = .ok (.float .f64 (D.write ((D.read x).integral way))) W := by
  unfold isNan at hx
  show (match D.read x with
    | .nan s t =>
      if FloatKind.f64.format.quiet t = t then pure (Value.float .f64 x) else do
      let kept ← choose (.extern "math.Floor,Ceil,Trunc,RoundToEven.signallingNaN kept" 2)
      pure (.float .f64 (if kept == 1 then x else FloatKind.f64.encode (.nan s (FloatKind.f64.format.quiet t))))
    | d => pure (.float .f64 (FloatKind.f64.encode (d.integral way))) : Sem Value).run P W = _
  cases e : D.read x with
  | nan s t => rw [e] at hx; simp [Ieee.Datum.isNaN] at hx
  | infinity s => rfl
  | number s m i => rfl
theorem isNan_word_nan (s : Bool) {q : Nat} (h0 : 0 < q) (h : q < 2 ^ 52) : isNan (D.word s (D.infRung + q)) = true := by
  have e1 : D.signWeight = 2 ^ 63 := by decide +kernel
  have e2 : D.infRung = 0x7ff0000000000000 := by decide +kernel
  have e3 : D.binade = 2 ^ 52 := by decide +kernel
  have hm : D.word s (D.infRung + q) % 2 ^ 63 = 0x7ff0000000000000 + q := by
    unfold Ieee.Format.word
    cases s
    · simp only [e1, e2, Bool.false_eq_true, if_false]; omega
    · simp only [e1, e2, if_true]; omega
  unfold isNan Ieee.Format.read
  simp only [e1, e2, e3] at hm ⊢
  rw [hm, if_neg (by omega), if_neg (by omega), if_neg (by omega)]
  rfl
theorem quiet_ne (t : Nat) : 0 < (FloatKind.f64.format.quiet t) % 2 ^ 52 := by
  have h : FloatKind.f64.format.quiet t = t ||| 2 ^ 51 := rfl
  have hb : ((t ||| 2 ^ 51) % 2 ^ 52).testBit 51 = true := by
    have h51 : Nat.testBit (2 ^ 51) 51 = true := by decide
    rw [Nat.testBit_mod_two_pow, Nat.testBit_or, h51]
    simp
  rw [h]
  rcases Nat.eq_zero_or_pos ((t ||| 2 ^ 51) % 2 ^ 52) with e | e
  · rw [e] at hb; simp at hb
  · exact e
theorem isNan_quiet (s : Bool) (t : Nat) : isNan (D.write (.nan s (FloatKind.f64.format.quiet t))) = true := by
  have e3 : D.binade = 2 ^ 52 := by decide +kernel
  show isNan (D.word s (D.infRung + (FloatKind.f64.format.quiet t) % D.binade)) = true
  rw [e3]
  exact isNan_word_nan s (quiet_ne t) (Nat.mod_lt _ (by decide))
theorem int_run_nan {P : Program} (W : World) (nm : String) (way : Ieee.Toward) (x : Nat) (hx : isNan x = true) :
    ∃ r n, (Extern.MathFloor.toIntegral nm way #[.float .f64 x]).run P W = .ok (.float .f64 r) (W.drewN n) ∧ isNan r = true := by
  obtain ⟨s, t, e⟩ := read_nan hx
  have h0 : Extern.MathFloor.toIntegral nm way #[.float .f64 x] = (if FloatKind.f64.format.quiet t = t then pure (Value.float .f64 x) else do
      let kept ← choose (.extern "math.Floor,Ceil,Trunc,RoundToEven.signallingNaN kept" 2)
      pure (.float .f64 (if kept == 1 then x else FloatKind.f64.encode (.nan s (FloatKind.f64.format.quiet t))))) := by
    show (match D.read x with
      | .nan s t =>
        if FloatKind.f64.format.quiet t = t then pure (Value.float .f64 x) else do
        let kept ← choose (.extern "math.Floor,Ceil,Trunc,RoundToEven.signallingNaN kept" 2)
        pure (.float .f64 (if kept == 1 then x else FloatKind.f64.encode (.nan s (FloatKind.f64.format.quiet t))))
      | d => pure (.float .f64 (FloatKind.f64.encode (d.integral way))) : Sem Value) = _
    rw [e]
  rw [h0]
  by_cases hq : FloatKind.f64.format.quiet t = t
  · rw [if_pos hq]
    exact ⟨x, 0, rfl, hx⟩
  · rw [if_neg hq]
    refine ⟨_, 1, rfl, ?_⟩
    split
    · exact hx
    · exact isNan_quiet s t
/-- a whole number of a number, or no number -/
theorem int_any {P : Program} (W : World) (nm : String) (way : Ieee.Toward) (x : Nat) :
    ∃ r n, (Extern.MathFloor.toIntegral nm way #[.float .f64 x]).run P W = .ok (.float .f64 r) (W.drewN n) ∧ (isNan x = true ∧ isNan r = true ∨ isNan x = false ∧ r = D.write ((D.read x).integral way)) := by
  cases hx : isNan x
  · exact ⟨_, 0, int_run W nm way x hx, .inr ⟨rfl, rfl⟩⟩
  · obtain ⟨r, n, h1, h2⟩ := int_run_nan (P := P) W nm way x hx
    exact ⟨r, n, h1, .inl ⟨rfl, h2⟩⟩
end Go.Proofs.YtegbkidjehjhmaaDoor
