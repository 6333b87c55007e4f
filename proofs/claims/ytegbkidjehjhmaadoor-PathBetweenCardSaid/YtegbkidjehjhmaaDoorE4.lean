/- plain.Code and the laws' coded, at an error of a known number. -/
import Derived.Test.YtegbkidjehjhmaaDoorE3
namespace Go.Proofs.YtegbkidjehjhmaaDoor
open Go.RowKit Go.Fp Go.Rel Go.Extern.Stop Go.Stop Go.Extern
set_option maxRecDepth 20000

/-- the error value of a number: nil, or a sentinel -/
inductive ErrOf (A : Nat → Addr) : Int → Value → Prop
  | nil : ErrOf A 0 .nilIface
  | bound : ErrOf A 2 (errV (A 5))
  | shape : ErrOf A 3 (errV (A 3))
  | range : ErrOf A 4 (errV (A 0))
  | name : ErrOf A 5 (errV (A 6))
  | none : ErrOf A 6 (errV (A 1))

/-- what a world holds for the laws: the eight sentinels, errors' own variable -/
structure World8 (A : Nat → Addr) (w : World) : Prop where
  errs : Errs g8 A w
  type : ErrT w
theorem World8.ext {A : Nat → Addr} {w w' : World} (h : World8 A w) (hx : Ext w w') : World8 A w' := ⟨h.errs.ext hx, h.type.ext hx⟩

theorem code_c {A : Nat → Addr} {w : World} (h : World8 A w) {k : Int} {v : Value} (hv : ErrOf A k v) : Calls Tryd.prog 65 #[v] w (ExR (.tuple #[.int .i64 k, .int .i64 (-1)]) w) := by
  cases hv with
  | nil => exact code_nil w
  | bound => exact code_bound h.errs h.type
  | shape => exact code_shape h.errs h.type
  | range => exact code_range h.errs h.type
  | name => exact code_name h.errs h.type
  | none => exact code_none h.errs h.type

set_option maxHeartbeats 4000000 in
theorem coded_c {A : Nat → Addr} {w : World} (h : World8 A w) {k : Int} {v : Value} (hv : ErrOf A k v) (m : Int) : Calls Tryd.prog 16 #[v, .int .i64 m] w (ExR (.bool (decide (k = m))) w) := by
  go_enter Tryd.func16, Tryd.ntmps16
  go_wp2_with (first | (go_at_call 65; refine (code_c h hv).mono ?_; rintro e w' ⟨rfl, hx⟩))
  go_ret
  exact ⟨rfl, hx⟩
end Go.Proofs.YtegbkidjehjhmaaDoor
