/- Walks: the numbers of a series, the reference's. -/
import Derived.Test.YtddjppaccpioiaaDoorZQ
import Derived.Test.YtddjppaccpioiaaDoorRc
import Derived.Test.YtddjppaccpioiaaDoorUB
import Derived.Deep.AppendLies
namespace Go.Proofs.YtddjppaccpioiaaDoor
open Go.RowKit Go.Fp Go.Rel
set_option maxRecDepth 20000

theorem infoFl : (Tryd.prog.info? 22).map (fun i => (i.zero, i.size, i.bytes)) = some (some (.float .f64 0), 1, 8) := by kernel_rfl
theorem info_fl : ∃ i, Tryd.prog.info? 22 = some i ∧ i.zero = some (.float .f64 0) ∧ i.size = 1 ∧ i.bytes = 8 := by
  have h := infoFl
  cases hi : Tryd.prog.info? 22 with
  | none => rw [hi] at h; cases h
  | some i =>
    rw [hi] at h
    simp only [Option.map_some, Option.some.injEq, Prod.mk.injEq] at h
    exact ⟨i, rfl, h.1, h.2.1, h.2.2⟩
theorem owns_ext' {w w' : World} {base size n : Nat} {e : TypeId} {v : Value} {xs : List Value} (h : w.ownsRow base e size v n xs) (hx : Ext w w') : w'.ownsRow base e size v n xs := by
  refine ⟨h.1, ?_⟩
  rcases h.2 with hn | ⟨g, cap, cur, rfl, hb, hgg, rest⟩
  · exact .inl hn
  · exact .inr ⟨g, cap, cur, rfl, hb, (hx.block g (Array.getElem?_eq_some_iff.1 hgg).1).trans hgg, rest⟩
theorem below_grown {w w' : World} {base size n : Nat} {e : TypeId} {v : Value} {xs : List Value} (h : w.ownsRow base e size v n xs) (hg : w.grownBy w' v.ownBlock) (hb : base ≤ w.heap.size) : Below base w w' :=
  ⟨hg.os, hg.tape, hg.output, hg.size, fun k hk => hg.block k (by omega) (fun e => by have := (h.lt k e.symm).1; omega)⟩
theorem blk_below {w w' : World} {base g : Nat} {t : TypeId} {cs : Array Value} (h : Blk w g t cs) (hx : Below base w w') (hg : g < base) : Blk w' g t cs := (hx.block g hg).trans h
/-- after an append and a store of the new row into a field of the block nR -/
theorem after_append {w w8 w9 : World} {base nR n m : Nat} {tN : TypeId} {v : Value} {xs news : List Value} {g cap i : Nat} {cs : Array Value}
    (hw : Ext w w8) (hb : Blk w8 nR tN cs) (ho : w8.ownsRow base tF 1 v n xs) (hR : nR < base) (hwR : w.heap.size ≤ nR) (hsz : base ≤ w8.heap.size)
    (hn : w9.ownsRow base tF 1 (.slice (some ⟨g, 0, none⟩) (n + m) cap) (n + m) (xs ++ news)) (hg : w8.grownBy w9 v.ownBlock) :
    Ext w (w9.setCell ⟨nR, i, none⟩ (.slice (some ⟨g, 0, none⟩) (n + m) cap)) ∧ Blk (w9.setCell ⟨nR, i, none⟩ (.slice (some ⟨g, 0, none⟩) (n + m) cap)) nR tN (cs.setIfInBounds i (.slice (some ⟨g, 0, none⟩) (n + m) cap)) ∧
    (w9.setCell ⟨nR, i, none⟩ (.slice (some ⟨g, 0, none⟩) (n + m) cap)).ownsRow base tF 1 (.slice (some ⟨g, 0, none⟩) (n + m) cap) (n + m) (xs ++ news) ∧ w8.heap.size ≤ (w9.setCell ⟨nR, i, none⟩ (.slice (some ⟨g, 0, none⟩) (n + m) cap)).heap.size ∧ Blk w9 nR tN cs ∧ (∀ k, k < base → k ≠ nR → (w9.setCell ⟨nR, i, none⟩ (.slice (some ⟨g, 0, none⟩) (n + m) cap)).heap[k]? = w8.heap[k]?) ∧ (∀ k, k < base → w9.heap[k]? = w8.heap[k]?) := by
  have hB := below_grown ho hg hsz
  have hw9 : Ext w w9 := ⟨hB.os.trans hw.os, hB.tape.trans hw.tape, hB.output.trans hw.output, Nat.le_trans hw.size hB.size, fun k hk => (hB.block k (by omega)).trans (hw.block k hk)⟩
  have hb9 := blk_below hb hB hR
  exact ⟨hw9.setCell hwR _, blk_set2 (i := i) _ hb9, ownsRow_setCell_below hn hR _, by simp; exact hB.size, hb9, fun k hk hne => by rw [setCell_other2 _ _ _ _ _ hne]; exact hB.block k hk, hB.block⟩

theorem horn4 (N : Nat) {c0 c1 c2 c3 : Nat} (h : fadd (can c3) (fmul N 0) = can c3) : hornP N [c3, c2, c1, c0] 4 = polyS N [c0, c1, c2, c3] 3 := by
  simp [hornP, polyS, h]
theorem horn3 (N : Nat) {c0 c1 c2 : Nat} (h : fadd (can c2) (fmul N 0) = can c2) : hornP N [c2, c1, c0] 3 = polyS N [c0, c1, c2] 2 := by
  simp [hornP, polyS, h]
theorem horn2 (N : Nat) {c0 c1 : Nat} (h : fadd (can c1) (fmul N 0) = can c1) : hornP N [c1, c0] 2 = polyS N [c0, c1] 1 := by
  simp [hornP, polyS, h]
theorem num_of_btw {x lo hi : Nat} (h : btw x lo hi = true) : isNan x = false := by
  cases hn : isNan x with
  | false => rfl
  | true =>
    unfold btw fge at h
    rw [order_l _ _ hn] at h
    simp at h
/-- the third flattening is a number: what it makes of zero is a zero -/
theorem horn_zero {a f : Nat} (hg : okG a f = true) : fmul (nS f) 0 = 0 ∨ fmul (nS f) 0 = 9223372036854775808 := by
  unfold okG at hg
  rw [Bool.and_eq_true] at hg
  have h2 := hg.2
  have hf := can_of_not (num_of_btw h2)
  unfold btw at h2
  rw [Bool.and_eq_true] at h2
  have ht : can 4611686018427387904 = two := by kernel_rfl
  have := mul_zero (third_num h2.1 h2.2)
  unfold nS
  rw [hf, ht]
  exact this
theorem zero_add : ∀ c ∈ [4597374579611521661, 4600639689341365271, 13828173981566040240, 13791923578851126295, 13822510526320350913, 13809880788793911511], fadd (can c) 0 = can c ∧ fadd (can c) 9223372036854775808 = can c := by decide +kernel
theorem zero_add' {a f c : Nat} (hg : okG a f = true) (hc : c ∈ [4597374579611521661, 4600639689341365271, 13828173981566040240, 13791923578851126295, 13822510526320350913, 13809880788793911511]) : fadd (can c) (fmul (nS f) 0) = can c := by
  rcases horn_zero hg with h | h
  · rw [h]; exact (zero_add c hc).1
  · rw [h]; exact (zero_add c hc).2
/-- four floats in a row -/
def Fl4 (w : World) (g y0 y1 y2 y3 : Nat) : Prop := w.cell? ⟨g, 0, none⟩ = some (.float .f64 y0) ∧ w.cell? ⟨g, 1, none⟩ = some (.float .f64 y1) ∧ w.cell? ⟨g, 2, none⟩ = some (.float .f64 y2) ∧ w.cell? ⟨g, 3, none⟩ = some (.float .f64 y3)
theorem Fl4.block {w w' : World} {g y0 y1 y2 y3 : Nat} (h : Fl4 w g y0 y1 y2 y3) (hb : w'.heap[g]? = w.heap[g]?) : Fl4 w' g y0 y1 y2 y3 := by
  obtain ⟨h0, h1, h2, h3⟩ := h
  exact ⟨(World.cell?_of_block (a := ⟨g, 0, none⟩) hb).trans h0, (World.cell?_of_block (a := ⟨g, 1, none⟩) hb).trans h1, (World.cell?_of_block (a := ⟨g, 2, none⟩) hb).trans h2, (World.cell?_of_block (a := ⟨g, 3, none⟩) hb).trans h3⟩
theorem Fl4.lt {w : World} {g y0 y1 y2 y3 : Nat} (h : Fl4 w g y0 y1 y2 y3) : g < w.heap.size := World.block_lt_of_cell? w _ h.1
theorem Fl4.ext {w w' : World} {g y0 y1 y2 y3 : Nat} (h : Fl4 w g y0 y1 y2 y3) (hx : Ext w w') : Fl4 w' g y0 y1 y2 y3 := h.block (hx.block g h.lt)
theorem Fl4.set {w : World} {g y0 y1 y2 y3 n i : Nat} {v : Value} (h : Fl4 w g y0 y1 y2 y3) (hn : g ≠ n) : Fl4 (w.setCell ⟨n, i, none⟩ v) g y0 y1 y2 y3 := h.block (setCell_other2 _ _ _ _ _ hn)
theorem fl4_of_owns {w : World} {b g cap y0 y1 y2 y3 : Nat} (h : w.ownsRow b tF 1 (.slice (some ⟨g, 0, none⟩) 4 cap) 4 [.float .f64 y0, .float .f64 y1, .float .f64 y2, .float .f64 y3]) : Fl4 w g y0 y1 y2 y3 := by
  have hc := h.cells rfl
  refine ⟨?_, ?_, ?_, ?_⟩
  · simpa [Addr.add] using hc 0 _ rfl
  · simpa [Addr.add] using hc 1 _ rfl
  · simpa [Addr.add] using hc 2 _ rfl
  · simpa [Addr.add] using hc 3 _ rfl
def NumR (a f : Nat) (w : World) (e : Ending) (w' : World) : Prop := ∃ r ga ca gb cb y0 y1 y2 y3 x0 x1 x2 x3, e = .returned (.agg #[.float .f64 r, .slice (some ⟨ga, 0, none⟩) 4 ca, .slice (some ⟨gb, 0, none⟩) 4 cb]) ∧ can r = radS a f ∧
  (can y0 = rowS tabA cA4 f 0 ∧ can y1 = rowS tabA cA4 f 1 ∧ can y2 = rowS tabA cA4 f 2 ∧ can y3 = rowS tabA cA4 f 3) ∧ (can x0 = rowS tabB cB4 f 0 ∧ can x1 = rowS tabB cB4 f 1 ∧ can x2 = rowS tabB cB4 f 2 ∧ can x3 = rowS tabB cB4 f 3) ∧
  Fl4 w' ga y0 y1 y2 y3 ∧ Fl4 w' gb x0 x1 x2 x3 ∧ Ext w w'
end Go.Proofs.YtddjppaccpioiaaDoor
