/- What a row's list of variables gives a walk: the sentinels (each an object of its own), errors' own variable; a start that meets the list. -/
import Derived.Test.YtegbkidjehjhmaaDoorRows
import Derived.Test.YtegbkidjehjhmaaDoorE1
import Derived.Stop.LaidErr
import Derived.LaidHandle
import Derived.LaidMore
import Derived.ProofKit
namespace Go.Proofs.YtegbkidjehjhmaaDoor
open Go.RowKit Go.ChangeShapes Go.Rel
set_option maxRecDepth 20000

theorem own : ownKnob Tryd.prog.godebug = none := by kernel_rfl
theorem starES : "*" ++ "errors.errorString" = "*errors.errorString" := by decide
theorem rowES (u : TypeId) (h : Tryd.prog.typeName? 3 u = some "*errors.errorString") : u = 216 :=
  typeName_ptr_named (nm := "errors.errorString") (by rw [starES]; kernel_rfl) (by kernel_rfl) (by decide) u (by rw [starES]; exact h)
theorem cellsES : Tryd.prog.cellsOf 236 = 1 := by kernel_rfl
theorem cellsStr : Tryd.prog.cellsOf 9 = 1 := by kernel_rfl

/-- a sentinel's datum -/
abbrev errD (text : List UInt8) : DataW Unit := .iface "*errors.errorString" (.ptr (.agg [.lit (.string text)]))
abbrev sents (L : List (Nat × String × List UInt8)) : List (String × DataW Unit) := L.map fun x => (x.2.1, errD x.2.2)
def Rows1 (W : World) (ps : List MemPlace) : Prop := ∀ b off, MemPlace.cell b off ∈ ps →
    (∃ c t, W.heap[b]? = some (.cells c t (0, 0))) ∧ ∀ u v, W.cell? ⟨b, off, none⟩ = some (.iface u v) → Value.okWide Tryd.prog W .any 0 u v
def Glob (x : Nat × String × List UInt8) : Prop := Tryd.prog.globalNamed x.2.1 = some x.1 ∧ (Tryd.prog.globals[x.1]?).map (·.type) = some 39

theorem sent_head {x : Nat × String × List UInt8} {W : World} {p : List MemPlace} {g : Nat} {t : TypeId} {cs : Array Value} {f : Nat} (hx : Glob x)
    (hg : Tryd.prog.globalNamed x.2.1 = some g) (ht : (Tryd.prog.globals[g]?).map (·.type) = some t) (hv : W.var? Tryd.prog x.2.1 = some cs)
    (hd : DataW.trod (fun _ => ()) Tryd.prog W 0 (fun _ => true) false f t cs.toList = some (errD x.2.2, p)) (hr : Rows1 W (MemPlace.row ⟨g, 0, none⟩ cs.size ++ p)) :
    ∃ a, W.cell? ⟨x.1, 0, none⟩ = some (errV a) ∧ (∃ c t, W.heap[a.block]? = some (.cells c t (0, 0))) ∧ MemPlace.cell a.block a.off ∈ p := by
  obtain rfl := Option.some.inj (hx.1.symm.trans hg)
  obtain rfl := Option.some.inj (hx.2.symm.trans ht)
  obtain ⟨l⟩ := cs
  have ok : ∀ u v, l = [.iface u v] → Value.okWide Tryd.prog W .any 0 u v := fun u v e => by
    subst e
    exact (hr x.1 0 (by simp [MemPlace.row])).2 u v (by simpa using World.var?_cell hg hv 0)
  obtain ⟨a, s, rfl, hc, hs, hz, rfl⟩ := errorString_of_trod Tryd.underlying39 rowES Tryd.underlying216 Tryd.underlying236 rfl rfl Tryd.underlying9 cellsES cellsStr hd ok
  exact ⟨a, by simpa using World.var?_cell hg hv 0, (hr a.block a.off (by simp [MemPlace.row])).1, by simp [MemPlace.row]⟩

theorem sents_each {W : World} : ∀ (L : List (Nat × String × List UInt8)) (ps : List MemPlace), (∀ x ∈ L, Glob x) → DataW.LaidVars Tryd.prog W (sents L) ps → Rows1 W ps →
    ∀ x ∈ L, ∃ a, W.cell? ⟨x.1, 0, none⟩ = some (errV a) ∧ (∃ c t, W.heap[a.block]? = some (.cells c t (0, 0))) ∧ MemPlace.cell a.block a.off ∈ ps
  | [], _, _, _, _ => by simp
  | y :: L, ps, hL, h, hr => by
    obtain ⟨g, t, cs, f, p, q, hg, ht, hv, hd, hq, rfl⟩ := h
    intro x hx
    rcases List.mem_cons.1 hx with rfl | hx
    · obtain ⟨a, h1, h2, h3⟩ := sent_head (hL _ (List.mem_cons_self ..)) hg ht hv hd (fun b off hm => hr b off (List.mem_append_left _ hm))
      exact ⟨a, h1, h2, List.mem_append_left _ (List.mem_append_right _ h3)⟩
    · obtain ⟨a, h1, h2, h3⟩ := sents_each L q (fun x hx => hL x (List.mem_cons_of_mem _ hx)) hq (fun b off hm => hr b off (List.mem_append_right _ hm)) x hx
      exact ⟨a, h1, h2, List.mem_append_right _ h3⟩

theorem errV_inj {a b : Addr} (h : (some (errV a) : Option Value) = some (errV b)) : a = b := by
  simp [errV] at h
  exact h

theorem sents_inj {W : World} : ∀ (L : List (Nat × String × List UInt8)) (ps : List MemPlace), (∀ x ∈ L, Glob x) → DataW.LaidVars Tryd.prog W (sents L) ps → Rows1 W ps → ps.Nodup →
    ∀ x ∈ L, ∀ y ∈ L, ∀ a, W.cell? ⟨x.1, 0, none⟩ = some (errV a) → W.cell? ⟨y.1, 0, none⟩ = some (errV a) → x.1 = y.1
  | [], _, _, _, _, _ => by simp
  | z :: L, ps, hL, h, hr, hn => by
    obtain ⟨g, t, cs, f, p, q, hg, ht, hv, hd, hq, rfl⟩ := h
    obtain ⟨a0, k1, k2, k3⟩ := sent_head (hL _ (List.mem_cons_self ..)) hg ht hv hd (fun b off hm => hr b off (List.mem_append_left _ hm))
    have hq' : Rows1 W q := fun b off hm => hr b off (List.mem_append_right _ hm)
    have hL' : ∀ x ∈ L, Glob x := fun x hx => hL x (List.mem_cons_of_mem _ hx)
    have hn' := List.nodup_append.1 hn
    have away : ∀ y ∈ L, W.cell? ⟨y.1, 0, none⟩ ≠ some (errV a0) := fun y hy e => by
      obtain ⟨b, h1, _, h3⟩ := sents_each L q hL' hq hq' y hy
      have hb : b = a0 := errV_inj (h1.symm.trans e)
      subst hb
      exact hn'.2.2 _ (List.mem_append_right _ k3) _ h3 rfl
    intro x hx y hy a ha hb
    rcases List.mem_cons.1 hx with rfl | hx' <;> rcases List.mem_cons.1 hy with rfl | hy'
    · rfl
    · have := errV_inj (ha.symm.trans k1)
      subst this
      exact absurd hb (away y hy')
    · have := errV_inj (hb.symm.trans k1)
      subst this
      exact absurd ha (away x hx')
    · exact sents_inj L q hL' hq hq' hn'.2.1 x hx' y hy' a ha hb

/-- where the object of a sentinel lies -/
def sentAt (W : World) (g : Nat) : Addr := match W.cell? ⟨g, 0, none⟩ with | some (.iface _ (.pointer (some a))) => a | _ => ⟨0, 0, none⟩

theorem errs_of_laid {W : World} (L : List (Nat × String × List UInt8)) (hL : ∀ x ∈ L, Glob x) (h : laidMet Tryd.prog (sents L) W) : Errs (L.map (·.1)) (sentAt W) W := by
  obtain ⟨ps, hv, hn, hr⟩ := h
  have each := sents_each L ps hL hv hr
  have at_ : ∀ x ∈ L, ∀ a, W.cell? ⟨x.1, 0, none⟩ = some (errV a) → sentAt W x.1 = a := fun x _ a e => by
    simp only [sentAt, e]
  refine ⟨fun g hg => ?_, fun g hg => ?_, fun g hg k hk e => ?_⟩
  · obtain ⟨x, hx, rfl⟩ := List.mem_map.1 hg
    obtain ⟨a, h1, _, _⟩ := each x hx
    rw [at_ x hx a h1]; exact h1
  · obtain ⟨x, hx, rfl⟩ := List.mem_map.1 hg
    obtain ⟨a, h1, h2, _⟩ := each x hx
    rw [at_ x hx a h1]; exact h2
  · obtain ⟨x, hx, rfl⟩ := List.mem_map.1 hg
    obtain ⟨y, hy, rfl⟩ := List.mem_map.1 hk
    obtain ⟨a, h1, _, _⟩ := each x hx
    obtain ⟨b, k1, _, _⟩ := each y hy
    rw [at_ x hx a h1, at_ y hy b k1] at e
    subst e
    exact sents_inj L ps hL hv hr hn x hx y hy a h1 k1
end Go.Proofs.YtegbkidjehjhmaaDoor
