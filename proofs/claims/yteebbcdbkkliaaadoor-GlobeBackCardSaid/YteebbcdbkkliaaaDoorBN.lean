/- (As BK, behind GP.) Several blocks in one fact; what a region leaves that makes a block and stores into it. -/
import Derived.Test.YteebbcdbkkliaaaDoorGP
import Derived.Test.YteebbcdbkkliaaaDoorGN
import Derived.Deep.RegionHeld3
import Derived.Deep.DeepCutAuto
namespace Go.Rel
open Go.RowKit
/-- several blocks -/
def Bks (w : World) : List (Nat × TypeId × Array Value) → Prop
  | [] => True
  | x :: l => Blk w x.1 x.2.1 x.2.2 ∧ Bks w l
theorem Bks.ext {w w' : World} : ∀ {l : List (Nat × TypeId × Array Value)} (_ : Bks w l) (_ : Ext w w'), Bks w' l
  | [], _, _ => trivial
  | _ :: _, h, hx => ⟨h.1.ext hx, Bks.ext h.2 hx⟩
theorem Blk.same {w w' : World} {g n : Nat} {t : TypeId} {c : Array Value} (h : Blk w n t c) (hk : ∀ n, n ≠ g → w'.heap[n]? = w.heap[n]?) (hn : n ≠ g) : Blk w' n t c := by
  unfold Blk at *; rw [hk n hn]; exact h
theorem Blk.keep {w u : World} {n : Nat} {t : TypeId} {c : Array Value} (h : Blk w n t c) (o : Obj) (hs : ∀ k, k ≠ w.heap.size → u.heap[k]? = (w.alloc o).heap[k]?) : Blk u n t c :=
  (h.ext ((Ext.refl w).alloc o)).same hs (by have := h.lt; omega)
theorem Bks.keep {w u : World} : ∀ {l : List (Nat × TypeId × Array Value)} (_ : Bks w l) (o : Obj) (_ : ∀ k, k ≠ w.heap.size → u.heap[k]? = (w.alloc o).heap[k]?), Bks u l
  | [], _, _, _ => trivial
  | _ :: _, h, o, hs => ⟨h.1.keep o hs, Bks.keep h.2 o hs⟩
theorem Bks.same {w u : World} {g : Nat} : ∀ {l : List (Nat × TypeId × Array Value)} (_ : Bks w l) (_ : ∀ k, k ≠ g → u.heap[k]? = w.heap[k]?) (_ : ∀ x ∈ l, x.1 ≠ g), Bks u l
  | [], _, _, _ => trivial
  | x :: _, h, hs, hg => ⟨h.1.same hs (hg x (List.mem_cons_self)), Bks.same h.2 hs (fun y hy => hg y (List.mem_cons_of_mem _ hy))⟩
theorem Bks.cons {w : World} {n : Nat} {t : TypeId} {c : Array Value} {l : List (Nat × TypeId × Array Value)} (h : Blk w n t c) (k : Bks w l) : Bks w ((n, t, c) :: l) := ⟨h, k⟩
theorem Bks.fresh {w : World} : ∀ {l : List (Nat × TypeId × Array Value)} (_ : Bks w l), ∀ x ∈ l, x.1 < w.heap.size
  | [], _, _, hx => by cases hx
  | _ :: _, h, x, hx => by
    cases hx with
    | head => exact h.1.lt
    | tail _ hx => exact Bks.fresh h.2 x hx
end Go.Rel
namespace Go.Proofs.YteebbcdbkkliaaaDoor
open Go.RowKit Go.Fp Go.Rel
set_option maxRecDepth 20000

theorem setCell_other' (w : World) (n i k : Nat) (v : Value) (h : k ≠ n) : (w.setCell ⟨n, i, none⟩ v).heap[k]? = w.heap[k]? := Below.heap_setCell _ _ _ _ h
theorem bareX {w w' v : World} (h : Ext v w') (ho : w.os = w'.os) (ht : w.tape = w'.tape) (hp : w.output = w'.output) (hh : w.heap = w'.heap) : Ext v w :=
  ⟨ho.trans h.os, ht.trans h.tape, hp.trans h.output, by rw [hh]; exact h.size, fun k hk => by rw [hh]; exact h.block k hk⟩
theorem blk_set' {w : World} {n i : Nat} {t : TypeId} {cs : Array Value} (v : Value) (h : Blk w n t cs) : Blk (w.setCell ⟨n, i, none⟩ v) n t (cs.setIfInBounds i v) := by
  unfold Blk at *
  simp [World.setCell, Array.getElem?_modify, h]
/-- a block made behind all that is known -/
theorem fin_new {w w3 : World} {l : List (Nat × TypeId × Array Value)} {t : TypeId} {cs : Array Value} (h : Ext w w3) (hl : Bks w3 l) :
    Ext w (w3.alloc (.cells cs t)) ∧ Bks (w3.alloc (.cells cs t)) l ∧ Blk (w3.alloc (.cells cs t)) w3.heap.size t cs :=
  ⟨h.alloc _, hl.ext ((Ext.refl _).alloc _), Blk.new _ _ _⟩
theorem fin_two {w w3 : World} {l : List (Nat × TypeId × Array Value)} {n : Nat} {t : TypeId} {a b u v : Value} (h : Ext w w3) (hl : Bks w3 l) (hz : Blk w3 n t #[a, b]) (hlt : ∀ x ∈ l, x.1 < n) (hw : w.heap.size ≤ n) :
    Ext w ((w3.setCell ⟨n, 0, none⟩ u).setCell ⟨n, 1, none⟩ v) ∧ Bks ((w3.setCell ⟨n, 0, none⟩ u).setCell ⟨n, 1, none⟩ v) l ∧ Blk ((w3.setCell ⟨n, 0, none⟩ u).setCell ⟨n, 1, none⟩ v) n t #[u, v] := by
  have ho : ∀ k, k ≠ n → ((w3.setCell ⟨n, 0, none⟩ u).setCell ⟨n, 1, none⟩ v).heap[k]? = w3.heap[k]? := fun k hk => by
    rw [setCell_other' _ _ _ _ _ hk, setCell_other' _ _ _ _ _ hk]
  refine ⟨(h.setCell hw _).setCell hw _, hl.same ho (fun x hx => Nat.ne_of_lt (hlt x hx)), ?_⟩
  simpa using blk_set' (i := 1) v (blk_set' (i := 0) u hz)
theorem fin_three {w w3 : World} {l : List (Nat × TypeId × Array Value)} {n : Nat} {t : TypeId} {a b c u v x : Value} (h : Ext w w3) (hl : Bks w3 l) (hz : Blk w3 n t #[a, b, c]) (hlt : ∀ x ∈ l, x.1 < n) (hw : w.heap.size ≤ n) :
    Ext w (((w3.setCell ⟨n, 0, none⟩ u).setCell ⟨n, 1, none⟩ v).setCell ⟨n, 2, none⟩ x) ∧ Bks (((w3.setCell ⟨n, 0, none⟩ u).setCell ⟨n, 1, none⟩ v).setCell ⟨n, 2, none⟩ x) l ∧
    Blk (((w3.setCell ⟨n, 0, none⟩ u).setCell ⟨n, 1, none⟩ v).setCell ⟨n, 2, none⟩ x) n t #[u, v, x] := by
  have ho : ∀ k, k ≠ n → (((w3.setCell ⟨n, 0, none⟩ u).setCell ⟨n, 1, none⟩ v).setCell ⟨n, 2, none⟩ x).heap[k]? = w3.heap[k]? := fun k hk => by
    rw [setCell_other' _ _ _ _ _ hk, setCell_other' _ _ _ _ _ hk, setCell_other' _ _ _ _ _ hk]
  refine ⟨((h.setCell hw _).setCell hw _).setCell hw _, hl.same ho (fun x hx => Nat.ne_of_lt (hlt x hx)), ?_⟩
  simpa using blk_set' (i := 2) x (blk_set' (i := 1) v (blk_set' (i := 0) u hz))

end Go.Proofs.YteebbcdbkkliaaaDoor
