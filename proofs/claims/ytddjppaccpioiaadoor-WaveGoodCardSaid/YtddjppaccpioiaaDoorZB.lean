/- The sentinels of package api: what a world holds of them; errors.Is and errors.As at them. -/
import Derived.Test.YtddjppaccpioiaaDoorZA
import Derived.Test.YtddjppaccpioiaaDoorProg
import Derived.WalkKit
import Derived.LaidEql
import Derived.Stop.Asserts
import Derived.RowKitTokens
import Derived.Test.YtddjppaccpioiaaDoorRows
import Derived.Stop.LaidErr
import Derived.LaidHandle
import Derived.LaidMore
import Derived.ProofKit
import Derived.OpenShut
import Derived.Lib.SmallJoins
import Derived.Carry
import Derived.Laws.Cover2
namespace Go.Proofs.YtddjppaccpioiaaDoor
open Go.RowKit Go.Fp Go.Rel Go.Extern.Stop Go.Stop Go.Extern
set_option maxRecDepth 20000

/-- the error value of the sentinel whose object lies at a -/
abbrev errV (a : Addr) : Value := .iface 126 (.pointer (some a))

/-- THE SENTINELS: the variable g, of those in gs, holds a pointer to an object of its own. -/
structure Errs (gs : List Nat) (A : Nat → Addr) (w : World) : Prop where
  cell : ∀ g ∈ gs, w.cell? ⟨g, 0, none⟩ = some (errV (A g))
  blk : ∀ g ∈ gs, ∃ c t, w.heap[(A g).block]? = some (.cells c t (0, 0))
  inj : ∀ g ∈ gs, ∀ h ∈ gs, A g = A h → g = h
/-- errors' own variable: the type 'error' -/
def ErrT (w : World) : Prop := w.cell? ⟨9000, 0, none⟩ = some (.iface 9001 (.agg #[.pointer (some ⟨5, 32, none⟩)]))

theorem heap_lt {w : World} {n : Nat} {o : Obj} (h : w.heap[n]? = some o) : n < w.heap.size := by
  rcases Nat.lt_or_ge n w.heap.size with h' | h'
  · exact h'
  · rw [Array.getElem?_eq_none h'] at h; cases h
theorem cell_lt {w : World} {n o : Nat} {v : Value} (h : w.cell? ⟨n, o, none⟩ = some v) : n < w.heap.size := by
  rcases Nat.lt_or_ge n w.heap.size with h' | h'
  · exact h'
  · simp [World.cell?, Array.getElem?_eq_none h'] at h
theorem Errs.ext {gs : List Nat} {A : Nat → Addr} {w w' : World} (h : Errs gs A w) (hx : Ext w w') : Errs gs A w' where
  cell g hg := by rw [hx.cell g 0 (cell_lt (h.cell g hg))]; exact h.cell g hg
  blk g hg := by
    obtain ⟨c, t, e⟩ := h.blk g hg
    exact ⟨c, t, by rw [hx.block _ (heap_lt e)]; exact e⟩
  inj := h.inj
theorem ErrT.ext {w w' : World} (h : ErrT w) (hx : Ext w w') : ErrT w' := by
  unfold ErrT at h ⊢
  rw [hx.cell _ 0 (cell_lt h)]; exact h

theorem isComp : (Tryd.prog.info? 126).map (·.comparable) = some true := by kernel_rfl
theorem isSize : (Tryd.prog.info? 146).map (·.size) = some 1 := by kernel_rfl
end Go.Proofs.YtddjppaccpioiaaDoor

/- errors.As at a sentinel: it misses. plain.Code and the laws' coded at nil and at each sentinel. -/
namespace Go.Proofs.YtddjppaccpioiaaDoor
open Go.RowKit Go.Fp Go.Rel Go.Extern.Stop Go.Stop Go.Extern
set_option maxRecDepth 20000

/-- the type value of t -/
abbrev tyV (t : TypeId) : Value := .agg #[.pointer (some ⟨5, t, none⟩)]
theorem rlm (z : Sem Value) (f : TypeId → Addr → Nat → Nat → Sem Value) (v : Value) :
    ReflectliteValue.method z f #[v] = (do match ← ReflectliteValue.parts v with | none => z | some (t, a, fl) => f t a fl (fl % 32)) := rfl
end Go.Proofs.YtddjppaccpioiaaDoor

/- plain.Code and the laws' coded: at nil, and at each sentinel. -/
namespace Go.Proofs.YtddjppaccpioiaaDoor
open Go.RowKit Go.Fp Go.Rel Go.Extern.Stop Go.Stop Go.Extern
set_option maxRecDepth 20000

/-- the eight sentinels, in the order in which plain.Code asks -/
abbrev g8 : List Nat := [9002, 9003, 2, 0, 4, 1, 9004, 9005]

end Go.Proofs.YtddjppaccpioiaaDoor

/- plain.Code and the laws' coded, at an error of a known number. -/
namespace Go.Proofs.YtddjppaccpioiaaDoor
open Go.RowKit Go.Fp Go.Rel Go.Extern.Stop Go.Stop Go.Extern
set_option maxRecDepth 20000

/-- the error value of a number: nil, or a sentinel -/
inductive ErrOf (A : Nat → Addr) : Int → Value → Prop
  | nil : ErrOf A 0 .nilIface
  | bound : ErrOf A 2 (errV (A 9003))
  | shape : ErrOf A 3 (errV (A 2))
  | range : ErrOf A 4 (errV (A 0))
  | name : ErrOf A 5 (errV (A 4))
  | none : ErrOf A 6 (errV (A 1))

/-- what a world holds for the laws: the eight sentinels, errors' own variable -/
structure World8 (A : Nat → Addr) (w : World) : Prop where
  errs : Errs g8 A w
  type : ErrT w
theorem World8.ext {A : Nat → Addr} {w w' : World} (h : World8 A w) (hx : Ext w w') : World8 A w' := ⟨h.errs.ext hx, h.type.ext hx⟩

end Go.Proofs.YtddjppaccpioiaaDoor

/- What a row's list of variables gives a walk: the sentinels (each an object of its own), errors' own variable; a start that meets the list. -/
namespace Go.Proofs.YtddjppaccpioiaaDoor
open Go.RowKit Go.ChangeShapes Go.Rel
set_option maxRecDepth 20000

theorem own : ownKnob Tryd.prog.godebug = none := by kernel_rfl
theorem starES : "*" ++ "errors.errorString" = "*errors.errorString" := by decide
theorem rowES (u : TypeId) (h : Tryd.prog.typeName? 3 u = some "*errors.errorString") : u = 126 :=
  typeName_ptr_named (nm := "errors.errorString") (by rw [starES]; kernel_rfl) (by kernel_rfl) (by decide) u (by rw [starES]; exact h)
theorem cellsES : Tryd.prog.cellsOf 146 = 1 := by kernel_rfl
theorem cellsStr : Tryd.prog.cellsOf 9 = 1 := by kernel_rfl

/-- a sentinel's datum -/
abbrev errD (text : List UInt8) : DataW Unit := .iface "*errors.errorString" (.ptr (.agg [.lit (.string text)]))
abbrev sents (L : List (Nat × String × List UInt8)) : List (String × DataW Unit) := L.map fun x => (x.2.1, errD x.2.2)
def Rows1 (W : World) (ps : List MemPlace) : Prop := ∀ b off, MemPlace.cell b off ∈ ps →
    (∃ c t, W.heap[b]? = some (.cells c t (0, 0))) ∧ ∀ u v, W.cell? ⟨b, off, none⟩ = some (.iface u v) → Value.okWide Tryd.prog W .any 0 u v
def Glob (x : Nat × String × List UInt8) : Prop := Tryd.prog.globalNamed x.2.1 = some x.1 ∧ (Tryd.prog.globals[x.1]?).map (·.type) = some 32

theorem sent_head {x : Nat × String × List UInt8} {W : World} {p : List MemPlace} {g : Nat} {t : TypeId} {cs : Array Value} {f : Nat} (hx : Glob x)
    (hg : Tryd.prog.globalNamed x.2.1 = some g) (ht : (Tryd.prog.globals[g]?).map (·.type) = some t) (hv : W.var? Tryd.prog x.2.1 = some cs)
    (hd : DataW.trod (fun _ => ()) Tryd.prog W 0 (fun _ => true) false f t cs.toList = some (errD x.2.2, p)) (hr : Rows1 W (MemPlace.row ⟨g, 0, none⟩ cs.size ++ p)) :
    ∃ a, W.cell? ⟨x.1, 0, none⟩ = some (errV a) ∧ (∃ c t, W.heap[a.block]? = some (.cells c t (0, 0))) ∧ MemPlace.cell a.block a.off ∈ p := by
  obtain rfl := Option.some.inj (hx.1.symm.trans hg)
  obtain rfl := Option.some.inj (hx.2.symm.trans ht)
  obtain ⟨l⟩ := cs
  have ok : ∀ u v, l = [.iface u v] → Value.okWide Tryd.prog W .any 0 u v := fun u v e => by
    subst e
    exact (hr x.1 0 (by simp [MemPlace.row])).2 u v (by simpa using World.var?_cell hg hv 0)
  obtain ⟨a, s, rfl, hc, hs, hz, rfl⟩ := errorString_of_trod Tryd.underlying32 rowES Tryd.underlying126 Tryd.underlying146 rfl rfl Tryd.underlying9 cellsES cellsStr hd ok
  exact ⟨a, by simpa using World.var?_cell hg hv 0, (hr a.block a.off (by simp [MemPlace.row])).1, by simp [MemPlace.row]⟩

theorem sents_each {W : World} : ∀ (L : List (Nat × String × List UInt8)) (ps : List MemPlace), (∀ x ∈ L, Glob x) → DataW.LaidVars Tryd.prog W (sents L) ps → Rows1 W ps →
    ∀ x ∈ L, ∃ a, W.cell? ⟨x.1, 0, none⟩ = some (errV a) ∧ (∃ c t, W.heap[a.block]? = some (.cells c t (0, 0))) ∧ MemPlace.cell a.block a.off ∈ ps
  | [], _, _, _, _ => by simp
  | y :: L, ps, hL, h, hr => by
    obtain ⟨g, t, cs, f, p, q, hg, ht, hv, hd, hq, rfl⟩ := h
    intro x hx
    rcases List.mem_cons.1 hx with rfl | hx
    · obtain ⟨a, h1, h2, h3⟩ := sent_head (hL _ (List.mem_cons_self ..)) hg ht hv hd (fun b off hm => hr b off (List.mem_append_left _ hm))
      exact ⟨a, h1, h2, List.mem_append_left _ (List.mem_append_right _ h3)⟩
    · obtain ⟨a, h1, h2, h3⟩ := sents_each L q (fun x hx => hL x (List.mem_cons_of_mem _ hx)) hq (fun b off hm => hr b off (List.mem_append_right _ hm)) x hx
      exact ⟨a, h1, h2, List.mem_append_right _ h3⟩

theorem errV_inj {a b : Addr} (h : (some (errV a) : Option Value) = some (errV b)) : a = b := by
  simp [errV] at h
  exact h

theorem sents_inj {W : World} : ∀ (L : List (Nat × String × List UInt8)) (ps : List MemPlace), (∀ x ∈ L, Glob x) → DataW.LaidVars Tryd.prog W (sents L) ps → Rows1 W ps → ps.Nodup →
    ∀ x ∈ L, ∀ y ∈ L, ∀ a, W.cell? ⟨x.1, 0, none⟩ = some (errV a) → W.cell? ⟨y.1, 0, none⟩ = some (errV a) → x.1 = y.1
  | [], _, _, _, _, _ => by simp
  | z :: L, ps, hL, h, hr, hn => by
    obtain ⟨g, t, cs, f, p, q, hg, ht, hv, hd, hq, rfl⟩ := h
    obtain ⟨a0, k1, k2, k3⟩ := sent_head (hL _ (List.mem_cons_self ..)) hg ht hv hd (fun b off hm => hr b off (List.mem_append_left _ hm))
    have hq' : Rows1 W q := fun b off hm => hr b off (List.mem_append_right _ hm)
    have hL' : ∀ x ∈ L, Glob x := fun x hx => hL x (List.mem_cons_of_mem _ hx)
    have hn' := List.nodup_append.1 hn
    have away : ∀ y ∈ L, W.cell? ⟨y.1, 0, none⟩ ≠ some (errV a0) := fun y hy e => by
      obtain ⟨b, h1, _, h3⟩ := sents_each L q hL' hq hq' y hy
      have hb : b = a0 := errV_inj (h1.symm.trans e)
      subst hb
      exact hn'.2.2 _ (List.mem_append_right _ k3) _ h3 rfl
    intro x hx y hy a ha hb
    rcases List.mem_cons.1 hx with rfl | hx' <;> rcases List.mem_cons.1 hy with rfl | hy'
    · rfl
    · have := errV_inj (ha.symm.trans k1)
      subst this
      exact absurd hb (away y hy')
    · have := errV_inj (hb.symm.trans k1)
      subst this
      exact absurd ha (away x hx')
    · exact sents_inj L q hL' hq hq' hn'.2.1 x hx' y hy' a ha hb

/-- where the object of a sentinel lies -/
def sentAt (W : World) (g : Nat) : Addr := match W.cell? ⟨g, 0, none⟩ with | some (.iface _ (.pointer (some a))) => a | _ => ⟨0, 0, none⟩

theorem errs_of_laid {W : World} (L : List (Nat × String × List UInt8)) (hL : ∀ x ∈ L, Glob x) (h : laidMet Tryd.prog (sents L) W) : Errs (L.map (·.1)) (sentAt W) W := by
  obtain ⟨ps, hv, hn, hr⟩ := h
  have each := sents_each L ps hL hv hr
  have at_ : ∀ x ∈ L, ∀ a, W.cell? ⟨x.1, 0, none⟩ = some (errV a) → sentAt W x.1 = a := fun x _ a e => by
    simp only [sentAt, e]
  refine ⟨fun g hg => ?_, fun g hg => ?_, fun g hg k hk e => ?_⟩
  · obtain ⟨x, hx, rfl⟩ := List.mem_map.1 hg
    obtain ⟨a, h1, _, _⟩ := each x hx
    rw [at_ x hx a h1]; exact h1
  · obtain ⟨x, hx, rfl⟩ := List.mem_map.1 hg
    obtain ⟨a, h1, h2, _⟩ := each x hx
    rw [at_ x hx a h1]; exact h2
  · obtain ⟨x, hx, rfl⟩ := List.mem_map.1 hg
    obtain ⟨y, hy, rfl⟩ := List.mem_map.1 hk
    obtain ⟨a, h1, _, _⟩ := each x hx
    obtain ⟨b, k1, _, _⟩ := each y hy
    rw [at_ x hx a h1, at_ y hy b k1] at e
    subst e
    exact sents_inj L ps hL hv hr hn x hx y hy a h1 k1
end Go.Proofs.YtddjppaccpioiaaDoor

/- The list that most rows of this seat bear: errors' own variable and the eight sentinels; a start that meets it. -/
namespace Go.Proofs.YtddjppaccpioiaaDoor
open Go.RowKit Go.ChangeShapes Go.Rel
set_option maxRecDepth 20000

end Go.Proofs.YtddjppaccpioiaaDoor

/- Opening the laws' arguments: boxes, spots. -/
namespace Go.Proofs.YtddjppaccpioiaaDoor
open Go.ChangeShapes Go.WideShapes Go.ChangeAt Go.RowKit Go.Joins
set_option maxRecDepth 20000

theorem laidOut : laidOutB Tryd.prog = true := by kernel_rfl
theorem cells1 : Tryd.prog.cellsOf 3 = 1 := by kernel_rfl
section
variable {H : Type} {enc : TypeId × Value → H} {w : World} {base : Nat} {sp : Nat → Bool} {held : Bool}
theorem int_bound {n : Int} (h : (Lit.int .i64 n).wf = true) : -9223372036854775808 ≤ n ∧ n ≤ 9223372036854775807 := by
  have hmin : IntKind.i64.min = -9223372036854775808 := rfl
  have hmax : IntKind.i64.max = 9223372036854775807 := rfl
  simp only [Lit.wf, Bool.and_eq_true, decide_eq_true_eq] at h
  omega
end
end Go.Proofs.YtddjppaccpioiaaDoor

/- Opening the laws' arguments: globes, vectors, places. -/
namespace Go.Proofs.YtddjppaccpioiaaDoor
open Go.ChangeShapes Go.WideShapes Go.ChangeAt Go.RowKit Go.Joins
set_option maxRecDepth 20000

theorem cellsGlobe : Tryd.prog.cellsOf 24 = 2 := by kernel_rfl
theorem cellsVec : Tryd.prog.cellsOf 40 = 3 := by kernel_rfl
theorem cellsPlace : Tryd.prog.cellsOf 26 = 2 := by kernel_rfl

section
variable {H : Type} {enc : TypeId × Value → H} {w : World} {base : Nat} {sp : Nat → Bool} {held : Bool}
theorem trod_float1 {P : Program} {fuel : Nat} {t : TypeId} {k : FloatKind} {cs : List Value} {x : DataW H × List MemPlace} (ht : P.underlying t = some (.float k)) (h : DataW.trod enc P w base sp held fuel t cs = some x) : ∃ n, cs = [.float k n] ∧ x.2 = [] := by
  cases fuel with
  | zero => simp [DataW.trod] at h
  | succ n =>
    unfold DataW.trod at h
    rw [ht] at h
    split at h <;> simp_all
    rw [← h.2]
theorem open_fl {r : Reach} {b0 : Nat} {v : Value} {d : DataW H} {ps : List MemPlace} (hval : Value.okWide Tryd.prog w r b0 22 v) (hd : DataW.Trod enc Tryd.prog w base sp held 22 v d ps) : ∃ a : Nat, v = .float .f64 a ∧ ps = [] := by
  obtain ⟨a, h1, _, h2, _⟩ := open_float Tryd.underlying22 hval hd
  exact ⟨a, h1, h2⟩
theorem open_globe {r : Reach} {b0 : Nat} {v : Value} {d : DataW H} {ps : List MemPlace} (hval : Value.okWide Tryd.prog w r b0 24 v) (hd : DataW.Trod enc Tryd.prog w base sp held 24 v d ps) :
    ∃ a f : Nat, v = .agg #[.float .f64 a, .float .f64 f] ∧ ps = [] := by
  obtain ⟨c0, c1, y0, y1, m, rfl, rfl, rfl, h0, h1⟩ := open_agg2 Tryd.underlying24 (by kernel_rfl) cellsGlobe hval hd
  obtain ⟨a, e0, k0⟩ := trod_float1 Tryd.underlying22 h0
  obtain ⟨b, e1, k1⟩ := trod_float1 Tryd.underlying22 h1
  simp at e0 e1
  exact ⟨a, b, by rw [e0, e1], by rw [k0, k1]; rfl⟩
theorem open_vec {r : Reach} {b0 : Nat} {v : Value} {d : DataW H} {ps : List MemPlace} (hval : Value.okWide Tryd.prog w r b0 40 v) (hd : DataW.Trod enc Tryd.prog w base sp held 40 v d ps) :
    ∃ x y z : Nat, v = .agg #[.float .f64 x, .float .f64 y, .float .f64 z] ∧ ps = [] := by
  obtain ⟨c0, c1, c2, y0, y1, y2, m, rfl, rfl, rfl, h0, h1, h2⟩ := open_agg3 Tryd.underlying40 (by kernel_rfl) cellsVec hval hd
  obtain ⟨a, e0, k0⟩ := trod_float1 Tryd.underlying22 h0
  obtain ⟨b, e1, k1⟩ := trod_float1 Tryd.underlying22 h1
  obtain ⟨c, e2, k2⟩ := trod_float1 Tryd.underlying22 h2
  simp at e0 e1 e2
  exact ⟨a, b, c, by rw [e0, e1, e2], by rw [k0, k1, k2]; rfl⟩
theorem open_place {r : Reach} {b0 : Nat} {v : Value} {d : DataW H} {ps : List MemPlace} (hval : Value.okWide Tryd.prog w r b0 26 v) (hd : DataW.Trod enc Tryd.prog w base sp held 26 v d ps) :
    ∃ lon lat : Int, v = .agg #[.int .i64 lon, .int .i64 lat] ∧ ps = [] := by
  obtain ⟨c0, c1, y0, y1, m, rfl, rfl, rfl, h0, h1⟩ := open_agg2 Tryd.underlying26 (by kernel_rfl) cellsPlace hval hd
  obtain ⟨a, e0, rfl, _⟩ := DataW.trod_int Tryd.underlying3 h0
  obtain ⟨b, e1, rfl, _⟩ := DataW.trod_int Tryd.underlying3 h1
  simp at e0 e1
  exact ⟨a, b, by rw [e0, e1], rfl⟩
end
end Go.Proofs.YtddjppaccpioiaaDoor
