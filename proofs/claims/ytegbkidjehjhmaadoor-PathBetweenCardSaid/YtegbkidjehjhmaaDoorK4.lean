/- Opening the laws' arguments: globes, vectors, places. -/
import Derived.Test.YtegbkidjehjhmaaDoorK3
import Derived.Laws.Cover2
namespace Go.Proofs.YtegbkidjehjhmaaDoor
open Go.ChangeShapes Go.WideShapes Go.ChangeAt Go.RowKit Go.Joins
set_option maxRecDepth 20000

theorem cellsGlobe : Tryd.prog.cellsOf 33 = 2 := by kernel_rfl
theorem cellsPlace : Tryd.prog.cellsOf 35 = 2 := by kernel_rfl

section
variable {H : Type} {enc : TypeId × Value → H} {w : World} {base : Nat} {sp : Nat → Bool} {held : Bool}
theorem trod_float1 {P : Program} {fuel : Nat} {t : TypeId} {k : FloatKind} {cs : List Value} {x : DataW H × List MemPlace} (ht : P.underlying t = some (.float k)) (h : DataW.trod enc P w base sp held fuel t cs = some x) : ∃ n, cs = [.float k n] ∧ x.2 = [] := by
  cases fuel with
  | zero => simp [DataW.trod] at h
  | succ n =>
    unfold DataW.trod at h
    rw [ht] at h
    split at h <;> simp_all
    rw [← h.2]
theorem open_fl {r : Reach} {b0 : Nat} {v : Value} {d : DataW H} {ps : List MemPlace} (hval : Value.okWide Tryd.prog w r b0 31 v) (hd : DataW.Trod enc Tryd.prog w base sp held 31 v d ps) : ∃ a : Nat, v = .float .f64 a ∧ ps = [] := by
  obtain ⟨a, h1, _, h2, _⟩ := open_float Tryd.underlying31 hval hd
  exact ⟨a, h1, h2⟩
theorem open_globe {r : Reach} {b0 : Nat} {v : Value} {d : DataW H} {ps : List MemPlace} (hval : Value.okWide Tryd.prog w r b0 33 v) (hd : DataW.Trod enc Tryd.prog w base sp held 33 v d ps) :
    ∃ a f : Nat, v = .agg #[.float .f64 a, .float .f64 f] ∧ ps = [] := by
  obtain ⟨c0, c1, y0, y1, m, rfl, rfl, rfl, h0, h1⟩ := open_agg2 Tryd.underlying33 (by kernel_rfl) cellsGlobe hval hd
  obtain ⟨a, e0, k0⟩ := trod_float1 Tryd.underlying31 h0
  obtain ⟨b, e1, k1⟩ := trod_float1 Tryd.underlying31 h1
  simp at e0 e1
  exact ⟨a, b, by rw [e0, e1], by rw [k0, k1]; rfl⟩
theorem open_place {r : Reach} {b0 : Nat} {v : Value} {d : DataW H} {ps : List MemPlace} (hval : Value.okWide Tryd.prog w r b0 35 v) (hd : DataW.Trod enc Tryd.prog w base sp held 35 v d ps) :
    ∃ lon lat : Int, v = .agg #[.int .i64 lon, .int .i64 lat] ∧ ps = [] := by
  obtain ⟨c0, c1, y0, y1, m, rfl, rfl, rfl, h0, h1⟩ := open_agg2 Tryd.underlying35 (by kernel_rfl) cellsPlace hval hd
  obtain ⟨a, e0, rfl, _⟩ := DataW.trod_int Tryd.underlying3 h0
  obtain ⟨b, e1, rfl, _⟩ := DataW.trod_int Tryd.underlying3 h1
  simp at e0 e1
  exact ⟨a, b, by rw [e0, e1], rfl⟩
end
end Go.Proofs.YtegbkidjehjhmaaDoor
