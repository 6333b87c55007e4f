/- The walk of the statement PathReach. -/
import Derived.Test.YtegbkidjehjhmaaDoorME
import Derived.Test.YtegbkidjehjhmaaDoorM6
import Derived.Deep.RegionWith
import Derived.Deep.DeepCutAuto
namespace Go.Proofs.YtegbkidjehjhmaaDoor
open Go.RowKit Go.Fp Go.Rel
set_option maxRecDepth 20000

theorem bareX {w w' v : World} (h : Ext v w') (ho : w.os = w'.os) (ht : w.tape = w'.tape) (hp : w.output = w'.output) (hh : w.heap = w'.heap) : Ext v w :=
  ⟨ho.trans h.os, ht.trans h.tape, hp.trans h.output, by rw [hh]; exact h.size, fun k hk => by rw [hh]; exact h.block k hk⟩
theorem ballX_c (a f : Nat) (w : World) : Calls Tryd.prog 14 #[globeV a f] w (ExR (globeV a f) w) := by
  go_enter Tryd.func14, Tryd.ntmps14
  go_wp2
  exact bodyPost_ret (v := globeV a f) (by simp [results, Tryd.results14, go_sem]) rfl ⟨rfl, by repeat (first | exact Ext.refl _ | refine Ext.drew ?_ | refine Ext.alloc ?_ _ | refine Ext.setCell ?_ (by simp) _)⟩
theorem setCell_other' (w : World) (n i k : Nat) (v : Value) (h : k ≠ n) : (w.setCell ⟨n, i, none⟩ v).heap[k]? = w.heap[k]? := Below.heap_setCell _ _ _ _ h
theorem blk_set' {w : World} {n i : Nat} {t : TypeId} {cs : Array Value} (v : Value) (h : Blk w n t cs) : Blk (w.setCell ⟨n, i, none⟩ v) n t (cs.setIfInBounds i v) := by
  unfold Blk at *
  simp [World.setCell, Array.getElem?_modify, h]
/-- a block made behind all that is known -/
theorem fin_new {w w3 : World} {l : List (Nat × TypeId × Array Value)} {t : TypeId} {cs : Array Value} (h : Ext w w3) (hl : Bks w3 l) :
    Ext w (w3.alloc (.cells cs t)) ∧ Bks (w3.alloc (.cells cs t)) l ∧ Blk (w3.alloc (.cells cs t)) w3.heap.size t cs :=
  ⟨h.alloc _, hl.ext ((Ext.refl _).alloc _), Blk.new _ _ _⟩
theorem fin_two {w w3 : World} {l : List (Nat × TypeId × Array Value)} {n : Nat} {t : TypeId} {a b u v : Value} (h : Ext w w3) (hl : Bks w3 l) (hz : Blk w3 n t #[a, b]) (hlt : ∀ x ∈ l, x.1 < n) (hw : w.heap.size ≤ n) :
    Ext w ((w3.setCell ⟨n, 0, none⟩ u).setCell ⟨n, 1, none⟩ v) ∧ Bks ((w3.setCell ⟨n, 0, none⟩ u).setCell ⟨n, 1, none⟩ v) l ∧ Blk ((w3.setCell ⟨n, 0, none⟩ u).setCell ⟨n, 1, none⟩ v) n t #[u, v] := by
  have ho : ∀ k, k ≠ n → ((w3.setCell ⟨n, 0, none⟩ u).setCell ⟨n, 1, none⟩ v).heap[k]? = w3.heap[k]? := fun k hk => by
    rw [setCell_other' _ _ _ _ _ hk, setCell_other' _ _ _ _ _ hk]
  refine ⟨(h.setCell hw _).setCell hw _, hl.same ho (fun x hx => Nat.ne_of_lt (hlt x hx)), ?_⟩
  simpa using blk_set' (i := 1) v (blk_set' (i := 0) u hz)
theorem fin_three {w w3 : World} {l : List (Nat × TypeId × Array Value)} {n : Nat} {t : TypeId} {a b c u v x : Value} (h : Ext w w3) (hl : Bks w3 l) (hz : Blk w3 n t #[a, b, c]) (hlt : ∀ x ∈ l, x.1 < n) (hw : w.heap.size ≤ n) :
    Ext w (((w3.setCell ⟨n, 0, none⟩ u).setCell ⟨n, 1, none⟩ v).setCell ⟨n, 2, none⟩ x) ∧ Bks (((w3.setCell ⟨n, 0, none⟩ u).setCell ⟨n, 1, none⟩ v).setCell ⟨n, 2, none⟩ x) l ∧
    Blk (((w3.setCell ⟨n, 0, none⟩ u).setCell ⟨n, 1, none⟩ v).setCell ⟨n, 2, none⟩ x) n t #[u, v, x] := by
  have ho : ∀ k, k ≠ n → (((w3.setCell ⟨n, 0, none⟩ u).setCell ⟨n, 1, none⟩ v).setCell ⟨n, 2, none⟩ x).heap[k]? = w3.heap[k]? := fun k hk => by
    rw [setCell_other' _ _ _ _ _ hk, setCell_other' _ _ _ _ _ hk, setCell_other' _ _ _ _ _ hk]
  refine ⟨((h.setCell hw _).setCell hw _).setCell hw _, hl.same ho (fun x hx => Nat.ne_of_lt (hlt x hx)), ?_⟩
  simpa using blk_set' (i := 2) x (blk_set' (i := 1) v (blk_set' (i := 0) u hz))

set_option maxHeartbeats 40000000 in
theorem pathReach_walk {A : Nat → Addr} (a f : Nat) (lon lat out : Int) (far : Nat) (w : World) (h8 : World8 A w) : Calls Tryd.prog 5 #[globeV a f, placeV lon lat, .int .i64 out, .float .f64 far] w (ExR (.bool true) w) := by
  obtain ⟨x, y, k, hI⟩ := reach_some ⟨a, f, lon, lat, out, far⟩
  have HI := Lib.hid hI
  clear hI
  have H8 := Lib.hid h8
  go_enter Tryd.func5, Tryd.ntmps5
  go_wp2_with (first
    | (go_at_call 12; go_must (refine (lined_c (A := A) _ (h8.ext (by repeat (first | exact Ext.refl _ | refine Ext.alloc ?_ _)))).mono ?_; rintro e w1 ⟨rfl, hx1⟩; obtain ⟨g1, g2, hw⟩ := ext2 hx1; clear hx1)))
  have hB : Bks w1 [(w.heap.size, 33, #[Value.float .f64 a, Value.float .f64 f]), (w.heap.size + 1, 35, #[Value.int .i64 lon, Value.int .i64 lat])] := ⟨g1, g2, trivial⟩
  have kc := And.intro hB.1.cell hB.2.1.cell
  have kl := And.intro hB.1.lt hB.2.1.lt
  go_cut [10, 11] (fun s1 s2 wx => ∃ (nb : Nat) (e1 : Value) , s1 = .pointer (some ⟨nb, 0, none⟩) ∧ s2 = e1 ∧  ErrOf A k e1 ∧ Ext w wx ∧ Bks wx [(w.heap.size, 33, #[Value.float .f64 a, Value.float .f64 f]), (w.heap.size + 1, 35, #[Value.int .i64 lon, Value.int .i64 lat])] ∧ Blk wx nb 35 #[.int .i64 x, .int .i64 y])
  case first =>
    have fr1 := Lib.hid hB.fresh
    go_region_with (first
      | (go_at_call 14; refine (ballX_c a f _).mono ?_; rintro e w2 ⟨rfl, hx⟩; have hE : Ext w1 w2 := (by first | exact (ext1 hx.of_drew).2 | exact hx.of_drew | exact bareN hx rfl rfl rfl rfl); (first | (have hz := (ext1 hx.of_drew).1) | skip); clear kc kl; have hB2 := hB.ext hE; have fr2 := Lib.hid hB2.fresh; have kc := And.intro hB2.1.cell hB2.2.1.cell; have kl := And.intro hB2.1.lt hB2.2.1.lt)
      | (go_at_call 18; ((first | (refine (reach_c HI.out w2 (h8.ext (hw.trans hE))).mono ?_) | (refine (reach_c HI.out _ (h8.ext ((hw.trans hE).alloc _))).mono ?_)); rintro e w3 ⟨e1, rfl, he1, hx'⟩; have hF : Ext w2 w3 := (by first | exact bareN hx' rfl rfl rfl rfl | exact bareN (ext1 hx').2 rfl rfl rfl rfl); (first | (have hz := (ext1 hx').1) | (replace hz := hz.ext hF) | skip); clear kc; (first | (have cZ := hz.cell; have fZ := hz.frozen) | skip))))
    all_goals
      have hL3 : Ext w w3 := (hw.trans hE).trans hF
      have hB3 := hB2.ext hF
      have s1 : w.heap.size ≤ w1.heap.size := hw.size
      have s2 : w.heap.size ≤ w2.heap.size := (hw.trans hE).size
      (try go_wp2_with fail)
      go_meet
      first
        | exact ⟨w3.heap.size, _, rfl, rfl, he1, fin_new hL3 hB3⟩
        | exact ⟨w2.heap.size, _, rfl, rfl, he1, fin_two hL3 hB3 hz fr2.out s2⟩
        | exact ⟨w1.heap.size, _, rfl, rfl, he1, fin_two hL3 hB3 hz fr1.out s1⟩
  case rest =>
    clear hB hw kc kl
    obtain ⟨nb, e1, rfl, rfl, he1, hw, hB, hP⟩ := hcut
    have kc := And.intro hB.1.cell (And.intro hB.2.1.cell hP.cell)
    go_wp2_with (first
      | (go_at_call 19; go_must (refine (reachOf_c HI.out _).mono ?_; rintro e v1 ⟨rfl, hx⟩; clear kc; replace hB := hB.ext (bareN hx rfl rfl rfl rfl); replace hP := hP.ext (bareN hx rfl rfl rfl rfl); replace hw := hw.trans (bareN hx rfl rfl rfl rfl); clear hx))
      | (refine wpList_own rfl 35 _ _ rfl _ _ rfl rfl _ _ (Blk.new _ _ _) (by kernel_rfl) rfl (by simp [Value.oneCell']) ?_; go_must (intro u bn en sn; have hlt := hP.lt; replace hP := hP.keep _ sn; replace hw := en _ (by repeat (first | exact hw | refine Ext.drewN ?_ _ | refine Ext.alloc ?_ _)) hw.size; clear en sn hB))
      | (go_at_call 16; go_must (refine (coded_c (H8.out.ext hw) he1 _).mono ?_; rintro e v2 ⟨rfl, hx⟩; rw [decide_eq_true (rfl : k = k)]; replace hP := hP.ext hx; replace bn := bn.ext hx; replace hw := hw.trans hx; clear hx; have kc := And.intro hP.cell bn.cell)))
    all_goals go_ret
    all_goals exact ⟨rfl, hw⟩

end Go.Proofs.YtegbkidjehjhmaaDoor
