/- Opening a reference; what the list of GridSquares gives a walk; a start that meets it. -/
import Derived.Test.YteebbcdbkkliaaaDoorZB
import Derived.Test.YteebbcdbkkliaaaDoorZB
import Derived.Test.YteebbcdbkkliaaaDoorDD
import Derived.Deep.Strs
namespace Go.Proofs.YteebbcdbkkliaaaDoor
open Go.ChangeShapes Go.WideShapes Go.ChangeAt Go.RowKit Go.Joins Go.Rel
set_option maxRecDepth 20000

theorem cellsBool : Tryd.prog.cellsOf 4 = 1 := by kernel_rfl
theorem cellsRef : Tryd.prog.cellsOf 43 = 4 := by kernel_rfl
section
variable {H : Type} {enc : TypeId × Value → H} {w : World} {base : Nat} {sp : Nat → Bool} {held : Bool}
theorem open_ref {r : Reach} {b0 : Nat} {v : Value} {d : DataW H} {ps : List MemPlace} (hval : Value.okWide Tryd.prog w r b0 43 v) (hd : DataW.Trod enc Tryd.prog w base sp held 43 v d ps) :
    ∃ (z : Int) (s : Bool) (e n : Int), v = .agg #[.int .i64 z, .bool s, .int .i64 e, .int .i64 n] ∧ ps = [] := by
  obtain ⟨cs, rfl, hsz⟩ := okWide_struct Tryd.underlying43 hval
  obtain ⟨c0, c1, c2, c3, rfl⟩ := array4 (hsz.trans cellsRef)
  obtain ⟨fuel, hf⟩ := hd
  obtain ⟨y0, y1, y2, y3, m, e, _, h0, h1, h2, h3⟩ := trod_struct4 Tryd.underlying43 hf
  simp only [Value.cells, cells1, cellsBool, List.drop_zero, List.drop_succ_cons, List.take_succ_cons, List.take_zero] at h0 h1 h2 h3
  obtain ⟨z, e0, rfl, _⟩ := DataW.trod_int Tryd.underlying3 h0
  obtain ⟨s, e1, rfl⟩ := DataW.trod_bool Tryd.underlying4 h1
  obtain ⟨x, e2, rfl, _⟩ := DataW.trod_int Tryd.underlying3 h2
  obtain ⟨y, e3, rfl, _⟩ := DataW.trod_int Tryd.underlying3 h3
  simp at e0 e1 e2 e3
  simp only [Prod.mk.injEq] at e
  exact ⟨z, s, x, y, by rw [e0, e1, e2, e3], by rw [e.2]; rfl⟩
end
/-- the list, as the row has it -/
abbrev laid5 : List (String × DataW Unit) := [("math/bits.deBruijn32tab", Rows.laid_math_bits_deBruijn32tab), ("math/bits.deBruijn64tab", Rows.laid_math_bits_deBruijn64tab), ("internal/strconv.uint64pow10", Rows.laid_internal_strconv_uint64pow10), ("mercator/api.ErrShape", Rows.laid_mercator_api_ErrShape), ("mercator/api.ErrRange", Rows.laid_mercator_api_ErrRange)]
abbrev L2 : List (Nat × String × List UInt8) := [(2, "mercator/api.ErrShape", [109, 101, 114, 99, 97, 116, 111, 114, 58, 32, 115, 104, 97, 112, 101]), (0, "mercator/api.ErrRange", [109, 101, 114, 99, 97, 116, 111, 114, 58, 32, 114, 97, 110, 103, 101])]
theorem glob2 : ∀ x ∈ L2, Glob x := by
  intro x hx
  simp only [L2, List.mem_cons, List.not_mem_nil, or_false] at hx
  rcases hx with rfl | rfl <;> exact ⟨by kernel_rfl, by kernel_rfl⟩
theorem laid_tail {P : Program} {W : World} {x : String × DataW Unit} {r : List (String × DataW Unit)} (h : laidMet P (x :: r) W) : laidMet P r W := by
  obtain ⟨n, d⟩ := x
  obtain ⟨ps, ⟨g, t, cs, fuel, p, q, _, _, _, _, hq, rfl⟩, hn, hr⟩ := h
  exact ⟨q, hq, (List.nodup_append.1 hn).2.1, fun b off hm => hr b off (List.mem_append_right _ hm)⟩
theorem pow_data : (Rows.laid_internal_strconv_uint64pow10 : DataW Unit) = Lib.tabData .u64 Lib.pow10Tab := by rfl
theorem tab_of_laid {W : World} {r : List (String × DataW Unit)} (h : laidMet Tryd.prog (("internal/strconv.uint64pow10", Rows.laid_internal_strconv_uint64pow10) :: r) W) : TabOk W := by
  rw [pow_data] at h
  exact Lib.tabIs_of_head (g := 10) (t := 154) (e := 98) (n := 20) (by kernel_rfl) (by kernel_rfl) Tryd.underlying154 Tryd.underlying98 (by kernel_rfl) (by kernel_rfl) h
theorem worldG_of_laid {W : World} (h : laidMetH Tryd.prog laid5 W) : WorldG (sentAt W) W := by
  have h' : laidMet Tryd.prog laid5 W := h
  have h3 := laid_tail (laid_tail h')
  have he := errs_of_laid L2 glob2 (laid_tail h3)
  exact ⟨he.cell _ (by decide), he.cell _ (by decide), tab_of_laid h3⟩
/-- The door's own heap meets the list. -/
theorem door5 (os : Os) (args : Array Value) : laidMetH Tryd.prog laid5 ((World.doorLaid Tryd.prog 400 os).forCall (fun _ _ => 0) ⟨#[], args, []⟩).memory :=
  show laidMet Tryd.prog laid5 _ from laidMet_of_run' 8 (by kernel_rfl) (by kernel_rfl)
end Go.Proofs.YteebbcdbkkliaaaDoor
