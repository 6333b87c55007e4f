/- Slices of integers as a walk reads them; what is owned stays owned. -/
import Derived.Test.YtdgaeodkffhciaaDoorProg
import Derived.Test.YtdgaeodkffhciaaDoorRel
import Derived.WalkKit
namespace Go.Proofs.YtdgaeodkffhciaaDoor
open Go.RowKit Go.Rel
set_option maxRecDepth 20000

abbrev ints (l : List Int) : List Value := l.map (Value.int .i64)
theorem owns_slice {w : World} {base size n : Nat} {e : TypeId} {v : Value} {xs : List Value} (h : w.ownsRow base e size v n xs) : ∃ ad cap, v = .slice ad n cap := by
  obtain ⟨_, ⟨rfl, rfl⟩ | ⟨g, cap, cur, rfl, _⟩⟩ := h
  · exact ⟨_, _, rfl⟩
  · exact ⟨_, _, rfl⟩
theorem owns_ext {w w' : World} {base size n : Nat} {e : TypeId} {v : Value} {xs : List Value} (h : w.ownsRow base e size v n xs) (hx : Ext w w') : w'.ownsRow base e size v n xs := by
  refine ⟨h.1, ?_⟩
  rcases h.2 with hn | ⟨g, cap, cur, rfl, hb, hgg, rest⟩
  · exact .inl hn
  · exact .inr ⟨g, cap, cur, rfl, hb, (hx.block g (Array.getElem?_eq_some_iff.1 hgg).1).trans hgg, rest⟩

/-- a slice of integers that reads as this list -/
def IntsAt (w : World) (v : Value) (l : List Int) : Prop :=
  ∃ b cap, (l = [] ∧ v = .slice none 0 cap) ∨ (v = .slice (some ⟨b, 0, none⟩) l.length cap ∧ ∀ i, i < l.length → w.cell? ⟨b, i, none⟩ = some (.int .i64 (l.getD i 0)))
theorem IntsAt.ext {w w' : World} {v : Value} {l : List Int} (h : IntsAt w v l) (hx : Ext w w') : IntsAt w' v l := by
  obtain ⟨b, cap, h | ⟨h1, h2⟩⟩ := h
  · exact ⟨b, cap, .inl h⟩
  · refine ⟨b, cap, .inr ⟨h1, fun i hi => ?_⟩⟩
    rw [hx.cell b i (World.block_lt_of_cell? w _ (h2 i hi))]
    exact h2 i hi
theorem IntsAt.nil (w : World) : IntsAt w (.slice none 0 0) [] := ⟨0, 0, .inl ⟨rfl, rfl⟩⟩
theorem ints_of_owns {w : World} {base n : Nat} {e : TypeId} {v : Value} {l : List Int} (h : w.ownsRow base e 1 v n (ints l)) : IntsAt w v l := by
  have hl : l.length = n := by have := h.1; simpa [ints] using this
  subst hl
  obtain ⟨_, ⟨rfl, hn⟩ | ⟨g, cap, cur, rfl, hh⟩⟩ := id h
  · have : l = [] := List.length_eq_zero_iff.1 hn
    subst this
    exact IntsAt.nil w
  · refine ⟨g, cap, .inr ⟨rfl, fun i hi => ?_⟩⟩
    rw [h.cellAt i (by omega)]
    simp [ints, hi]
end Go.Proofs.YtdgaeodkffhciaaDoor
