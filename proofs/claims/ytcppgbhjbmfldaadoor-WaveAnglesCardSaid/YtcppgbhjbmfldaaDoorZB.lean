/- The sentinels of package api: what a world holds of them; errors.Is and errors.As at them. -/
import Derived.Test.YtcppgbhjbmfldaaDoorZA
import Derived.Test.YtcppgbhjbmfldaaDoorProg
import Derived.WalkKit
import Derived.LaidEql
import Derived.Stop.Asserts
import Derived.RowKitTokens
import Derived.Test.YtcppgbhjbmfldaaDoorRows
import Derived.Stop.LaidErr
import Derived.LaidHandle
import Derived.LaidMore
import Derived.ProofKit
import Derived.OpenShut
import Derived.Lib.SmallJoins
import Derived.Carry
import Derived.Laws.Cover2
namespace Go.Proofs.YtcppgbhjbmfldaaDoor
open Go.RowKit Go.Fp Go.Rel Go.Extern.Stop Go.Stop Go.Extern
set_option maxRecDepth 20000

/-- the error value of the sentinel whose object lies at a -/
abbrev errV (a : Addr) : Value := .iface 112 (.pointer (some a))

/-- THE SENTINELS: the variable g, of those in gs, holds a pointer to an object of its own. -/
structure Errs (gs : List Nat) (A : Nat → Addr) (w : World) : Prop where
  cell : ∀ g ∈ gs, w.cell? ⟨g, 0, none⟩ = some (errV (A g))
  blk : ∀ g ∈ gs, ∃ c t, w.heap[(A g).block]? = some (.cells c t (0, 0))
  inj : ∀ g ∈ gs, ∀ h ∈ gs, A g = A h → g = h
/-- errors' own variable: the type 'error' -/
def ErrT (w : World) : Prop := w.cell? ⟨9000, 0, none⟩ = some (.iface 9001 (.agg #[.pointer (some ⟨4, 32, none⟩)]))

theorem heap_lt {w : World} {n : Nat} {o : Obj} (h : w.heap[n]? = some o) : n < w.heap.size := by
  rcases Nat.lt_or_ge n w.heap.size with h' | h'
  · exact h'
  · rw [Array.getElem?_eq_none h'] at h; cases h
theorem cell_lt {w : World} {n o : Nat} {v : Value} (h : w.cell? ⟨n, o, none⟩ = some v) : n < w.heap.size := by
  rcases Nat.lt_or_ge n w.heap.size with h' | h'
  · exact h'
  · simp [World.cell?, Array.getElem?_eq_none h'] at h
theorem Errs.ext {gs : List Nat} {A : Nat → Addr} {w w' : World} (h : Errs gs A w) (hx : Ext w w') : Errs gs A w' where
  cell g hg := by rw [hx.cell g 0 (cell_lt (h.cell g hg))]; exact h.cell g hg
  blk g hg := by
    obtain ⟨c, t, e⟩ := h.blk g hg
    exact ⟨c, t, by rw [hx.block _ (heap_lt e)]; exact e⟩
  inj := h.inj
theorem ErrT.ext {w w' : World} (h : ErrT w) (hx : Ext w w') : ErrT w' := by
  unfold ErrT at h ⊢
  rw [hx.cell _ 0 (cell_lt h)]; exact h

end Go.Proofs.YtcppgbhjbmfldaaDoor

/- errors.As at a sentinel: it misses. plain.Code and the laws' coded at nil and at each sentinel. -/
namespace Go.Proofs.YtcppgbhjbmfldaaDoor
open Go.RowKit Go.Fp Go.Rel Go.Extern.Stop Go.Stop Go.Extern
set_option maxRecDepth 20000

/-- the type value of t -/
abbrev tyV (t : TypeId) : Value := .agg #[.pointer (some ⟨4, t, none⟩)]
end Go.Proofs.YtcppgbhjbmfldaaDoor

/- plain.Code and the laws' coded: at nil, and at each sentinel. -/
namespace Go.Proofs.YtcppgbhjbmfldaaDoor
open Go.RowKit Go.Fp Go.Rel Go.Extern.Stop Go.Stop Go.Extern
set_option maxRecDepth 20000

/-- the eight sentinels, in the order in which plain.Code asks -/
abbrev g8 : List Nat := [9002, 9003, 2, 0, 9004, 1, 9005, 9006]

end Go.Proofs.YtcppgbhjbmfldaaDoor

/- plain.Code and the laws' coded, at an error of a known number. -/
namespace Go.Proofs.YtcppgbhjbmfldaaDoor
open Go.RowKit Go.Fp Go.Rel Go.Extern.Stop Go.Stop Go.Extern
set_option maxRecDepth 20000

/-- the error value of a number: nil, or a sentinel -/
inductive ErrOf (A : Nat → Addr) : Int → Value → Prop
  | nil : ErrOf A 0 .nilIface
  | bound : ErrOf A 2 (errV (A 9003))
  | shape : ErrOf A 3 (errV (A 2))
  | range : ErrOf A 4 (errV (A 0))
  | name : ErrOf A 5 (errV (A 9004))
  | none : ErrOf A 6 (errV (A 1))

/-- what a world holds for the laws: the eight sentinels, errors' own variable -/
structure World8 (A : Nat → Addr) (w : World) : Prop where
  errs : Errs g8 A w
  type : ErrT w
theorem World8.ext {A : Nat → Addr} {w w' : World} (h : World8 A w) (hx : Ext w w') : World8 A w' := ⟨h.errs.ext hx, h.type.ext hx⟩

end Go.Proofs.YtcppgbhjbmfldaaDoor

/- What a row's list of variables gives a walk: the sentinels (each an object of its own), errors' own variable; a start that meets the list. -/
namespace Go.Proofs.YtcppgbhjbmfldaaDoor
open Go.RowKit Go.ChangeShapes Go.Rel
set_option maxRecDepth 20000

theorem own : ownKnob Tryd.prog.godebug = none := by kernel_rfl
/-- a sentinel's datum -/
abbrev errD (text : List UInt8) : DataW Unit := .iface "*errors.errorString" (.ptr (.agg [.lit (.string text)]))
abbrev sents (L : List (Nat × String × List UInt8)) : List (String × DataW Unit) := L.map fun x => (x.2.1, errD x.2.2)
def Rows1 (W : World) (ps : List MemPlace) : Prop := ∀ b off, MemPlace.cell b off ∈ ps →
    (∃ c t, W.heap[b]? = some (.cells c t (0, 0))) ∧ ∀ u v, W.cell? ⟨b, off, none⟩ = some (.iface u v) → Value.okWide Tryd.prog W .any 0 u v
def Glob (x : Nat × String × List UInt8) : Prop := Tryd.prog.globalNamed x.2.1 = some x.1 ∧ (Tryd.prog.globals[x.1]?).map (·.type) = some 32

/-- where the object of a sentinel lies -/
def sentAt (W : World) (g : Nat) : Addr := match W.cell? ⟨g, 0, none⟩ with | some (.iface _ (.pointer (some a))) => a | _ => ⟨0, 0, none⟩

end Go.Proofs.YtcppgbhjbmfldaaDoor

/- Opening the laws' arguments: boxes, spots. -/
namespace Go.Proofs.YtcppgbhjbmfldaaDoor
open Go.ChangeShapes Go.WideShapes Go.ChangeAt Go.RowKit Go.Joins
set_option maxRecDepth 20000

theorem laidOut : laidOutB Tryd.prog = true := by kernel_rfl
section
variable {H : Type} {enc : TypeId × Value → H} {w : World} {base : Nat} {sp : Nat → Bool} {held : Bool}
end
end Go.Proofs.YtcppgbhjbmfldaaDoor

/- Opening the laws' arguments: globes, vectors, places. -/
namespace Go.Proofs.YtcppgbhjbmfldaaDoor
open Go.ChangeShapes Go.WideShapes Go.ChangeAt Go.RowKit Go.Joins
set_option maxRecDepth 20000

theorem cellsGlobe : Tryd.prog.cellsOf 24 = 2 := by kernel_rfl
theorem cellsPlace : Tryd.prog.cellsOf 26 = 2 := by kernel_rfl

section
variable {H : Type} {enc : TypeId × Value → H} {w : World} {base : Nat} {sp : Nat → Bool} {held : Bool}
theorem trod_float1 {P : Program} {fuel : Nat} {t : TypeId} {k : FloatKind} {cs : List Value} {x : DataW H × List MemPlace} (ht : P.underlying t = some (.float k)) (h : DataW.trod enc P w base sp held fuel t cs = some x) : ∃ n, cs = [.float k n] ∧ x.2 = [] := by
  cases fuel with
  | zero => simp [DataW.trod] at h
  | succ n =>
    unfold DataW.trod at h
    rw [ht] at h
    split at h <;> simp_all
    rw [← h.2]
theorem open_place {r : Reach} {b0 : Nat} {v : Value} {d : DataW H} {ps : List MemPlace} (hval : Value.okWide Tryd.prog w r b0 26 v) (hd : DataW.Trod enc Tryd.prog w base sp held 26 v d ps) :
    ∃ lon lat : Int, v = .agg #[.int .i64 lon, .int .i64 lat] ∧ ps = [] := by
  obtain ⟨c0, c1, y0, y1, m, rfl, rfl, rfl, h0, h1⟩ := open_agg2 Tryd.underlying26 (by kernel_rfl) cellsPlace hval hd
  obtain ⟨a, e0, rfl, _⟩ := DataW.trod_int Tryd.underlying3 h0
  obtain ⟨b, e1, rfl, _⟩ := DataW.trod_int Tryd.underlying3 h1
  simp at e0 e1
  exact ⟨a, b, by rw [e0, e1], rfl⟩
end
end Go.Proofs.YtcppgbhjbmfldaaDoor
