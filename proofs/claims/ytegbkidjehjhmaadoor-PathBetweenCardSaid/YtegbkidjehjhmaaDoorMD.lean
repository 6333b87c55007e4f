/- The walk of the statement PathBetween. -/
import Derived.Test.YtegbkidjehjhmaaDoorME
import Derived.Deep.RegionHeld3
import Derived.Deep.DeepCutAuto
namespace Go.Proofs.YtegbkidjehjhmaaDoor
open Go.RowKit Go.Fp Go.Rel
set_option maxRecDepth 20000

theorem bareX {w w' v : World} (h : Ext v w') (ho : w.os = w'.os) (ht : w.tape = w'.tape) (hp : w.output = w'.output) (hh : w.heap = w'.heap) : Ext v w :=
  ⟨ho.trans h.os, ht.trans h.tape, hp.trans h.output, by rw [hh]; exact h.size, fun k hk => by rw [hh]; exact h.block k hk⟩
theorem ballX_c (a f : Nat) (w : World) : Calls Tryd.prog 14 #[globeV a f] w (ExR (globeV a f) w) := by
  go_enter Tryd.func14, Tryd.ntmps14
  go_wp2
  exact bodyPost_ret (v := globeV a f) (by simp [results, Tryd.results14, go_sem]) rfl ⟨rfl, by repeat (first | exact Ext.refl _ | refine Ext.drew ?_ | refine Ext.alloc ?_ _ | refine Ext.setCell ?_ (by simp) _)⟩
theorem setCell_other' (w : World) (n i k : Nat) (v : Value) (h : k ≠ n) : (w.setCell ⟨n, i, none⟩ v).heap[k]? = w.heap[k]? := Below.heap_setCell _ _ _ _ h
theorem blk_set' {w : World} {n i : Nat} {t : TypeId} {cs : Array Value} (v : Value) (h : Blk w n t cs) : Blk (w.setCell ⟨n, i, none⟩ v) n t (cs.setIfInBounds i v) := by
  unfold Blk at *
  simp [World.setCell, Array.getElem?_modify, h]
/-- a block made behind all that is known -/
theorem fin_new {w w3 : World} {l : List (Nat × TypeId × Array Value)} {t : TypeId} {cs : Array Value} (h : Ext w w3) (hl : Bks w3 l) :
    Ext w (w3.alloc (.cells cs t)) ∧ Bks (w3.alloc (.cells cs t)) l ∧ Blk (w3.alloc (.cells cs t)) w3.heap.size t cs :=
  ⟨h.alloc _, hl.ext ((Ext.refl _).alloc _), Blk.new _ _ _⟩
theorem fin_two {w w3 : World} {l : List (Nat × TypeId × Array Value)} {n : Nat} {t : TypeId} {a b u v : Value} (h : Ext w w3) (hl : Bks w3 l) (hz : Blk w3 n t #[a, b]) (hlt : ∀ x ∈ l, x.1 < n) (hw : w.heap.size ≤ n) :
    Ext w ((w3.setCell ⟨n, 0, none⟩ u).setCell ⟨n, 1, none⟩ v) ∧ Bks ((w3.setCell ⟨n, 0, none⟩ u).setCell ⟨n, 1, none⟩ v) l ∧ Blk ((w3.setCell ⟨n, 0, none⟩ u).setCell ⟨n, 1, none⟩ v) n t #[u, v] := by
  have ho : ∀ k, k ≠ n → ((w3.setCell ⟨n, 0, none⟩ u).setCell ⟨n, 1, none⟩ v).heap[k]? = w3.heap[k]? := fun k hk => by
    rw [setCell_other' _ _ _ _ _ hk, setCell_other' _ _ _ _ _ hk]
  refine ⟨(h.setCell hw _).setCell hw _, hl.same ho (fun x hx => Nat.ne_of_lt (hlt x hx)), ?_⟩
  simpa using blk_set' (i := 1) v (blk_set' (i := 0) u hz)
theorem fin_three {w w3 : World} {l : List (Nat × TypeId × Array Value)} {n : Nat} {t : TypeId} {a b c u v x : Value} (h : Ext w w3) (hl : Bks w3 l) (hz : Blk w3 n t #[a, b, c]) (hlt : ∀ x ∈ l, x.1 < n) (hw : w.heap.size ≤ n) :
    Ext w (((w3.setCell ⟨n, 0, none⟩ u).setCell ⟨n, 1, none⟩ v).setCell ⟨n, 2, none⟩ x) ∧ Bks (((w3.setCell ⟨n, 0, none⟩ u).setCell ⟨n, 1, none⟩ v).setCell ⟨n, 2, none⟩ x) l ∧
    Blk (((w3.setCell ⟨n, 0, none⟩ u).setCell ⟨n, 1, none⟩ v).setCell ⟨n, 2, none⟩ x) n t #[u, v, x] := by
  have ho : ∀ k, k ≠ n → (((w3.setCell ⟨n, 0, none⟩ u).setCell ⟨n, 1, none⟩ v).setCell ⟨n, 2, none⟩ x).heap[k]? = w3.heap[k]? := fun k hk => by
    rw [setCell_other' _ _ _ _ _ hk, setCell_other' _ _ _ _ _ hk, setCell_other' _ _ _ _ _ hk]
  refine ⟨((h.setCell hw _).setCell hw _).setCell hw _, hl.same ho (fun x hx => Nat.ne_of_lt (hlt x hx)), ?_⟩
  simpa using blk_set' (i := 2) x (blk_set' (i := 1) v (blk_set' (i := 0) u hz))

/-- the cells of a globe and of two places -/
theorem cells3 {w' : World} {n a f : Nat} {p q r s : Int} {tG tP : TypeId} (h : Bks w' [(n, tG, #[Value.float .f64 a, Value.float .f64 f]), (n + 1, tP, #[Value.int .i64 p, Value.int .i64 q]), (n + 1 + 1, tP, #[Value.int .i64 r, Value.int .i64 s])]) :
    w'.cell? ⟨n, 0, none⟩ = some (.float .f64 a) ∧ w'.cell? ⟨n, 1, none⟩ = some (.float .f64 f) ∧ w'.cell? ⟨n + 1, 0, none⟩ = some (.int .i64 p) ∧ w'.cell? ⟨n + 1, 1, none⟩ = some (.int .i64 q) ∧
    w'.cell? ⟨n + 1 + 1, 0, none⟩ = some (.int .i64 r) ∧ w'.cell? ⟨n + 1 + 1, 1, none⟩ = some (.int .i64 s) :=
  ⟨h.1.cell 0, h.1.cell 1, h.2.1.cell 0, h.2.1.cell 1, h.2.2.1.cell 0, h.2.2.1.cell 1⟩

set_option maxHeartbeats 40000000 in
theorem pathBetween_walk {A : Nat → Addr} (a f : Nat) (lonA latA lonB latB : Int) (w : World) (h8 : World8 A w) : Calls Tryd.prog 4 #[globeV a f, placeV lonA latA, placeV lonB latB] w (ExR (.bool true) w) := by
  obtain ⟨far, o, i, k, hI⟩ := line_some ⟨a, f, lonA, latA, lonB, latB⟩
  have HI := Lib.hid hI
  clear hI
  have H8 := Lib.hid h8
  go_enter Tryd.func4, Tryd.ntmps4
  go_wp2_with (first
    | (go_at_call 12; go_must (refine (lined_c (A := A) _ (h8.ext (by repeat (first | exact Ext.refl _ | refine Ext.alloc ?_ _)))).mono ?_; rintro e w1 ⟨rfl, hx1⟩; obtain ⟨g1, g2, g3, hw⟩ := ext3 hx1; clear hx1)))
  have hB : Bks w1 [(w.heap.size, 33, #[Value.float .f64 a, Value.float .f64 f]), (w.heap.size + 1, 35, #[Value.int .i64 lonA, Value.int .i64 latA]), (w.heap.size + 1 + 1, 35, #[Value.int .i64 lonB, Value.int .i64 latB])] := ⟨g1, g2, g3, trivial⟩
  have kc := And.intro hB.1.cell (And.intro hB.2.1.cell hB.2.2.1.cell)
  have kl := And.intro hB.1.lt (And.intro hB.2.1.lt hB.2.2.1.lt)
  go_cut [8, 9] (fun s1 s2 wx => ∃ (nb : Nat) (e1 : Value) (fr : Nat), s1 = .pointer (some ⟨nb, 0, none⟩) ∧ s2 = e1 ∧ can fr = far ∧ ErrOf A k e1 ∧ Ext w wx ∧ Bks wx [(w.heap.size, 33, #[Value.float .f64 a, Value.float .f64 f]), (w.heap.size + 1, 35, #[Value.int .i64 lonA, Value.int .i64 latA]), (w.heap.size + 1 + 1, 35, #[Value.int .i64 lonB, Value.int .i64 latB])] ∧ Blk wx nb 37 #[.float .f64 fr, .int .i64 o, .int .i64 i])
  case first =>
    have fr1 := Lib.hid hB.fresh
    go_region_held3 (fun w' => w'.cell? ⟨w.heap.size, 0, none⟩ = some (.float .f64 a) ∧ w'.cell? ⟨w.heap.size, 1, none⟩ = some (.float .f64 f) ∧ w'.cell? ⟨w.heap.size + 1, 0, none⟩ = some (.int .i64 lonA) ∧ w'.cell? ⟨w.heap.size + 1, 1, none⟩ = some (.int .i64 latA) ∧ w'.cell? ⟨w.heap.size + 1 + 1, 0, none⟩ = some (.int .i64 lonB) ∧ w'.cell? ⟨w.heap.size + 1 + 1, 1, none⟩ = some (.int .i64 latB))
      (first | (refine cells3 (Bks.ext hB3 ?_); (repeat (first | exact Ext.refl _ | refine Ext.drew ?_ | refine Ext.alloc ?_ _)); done) | (refine cells3 (Bks.ext hB2 ?_); (repeat (first | exact Ext.refl _ | refine Ext.drew ?_ | refine Ext.alloc ?_ _)); done) | (refine cells3 (Bks.ext hB ?_); (repeat (first | exact Ext.refl _ | refine Ext.drew ?_ | refine Ext.alloc ?_ _)); done) | (exact cells3 (fin_three (hw.trans (hE.trans hF)) hB3 hz fr2.out (hw.trans hE).size).2.1) | (refine cells3 (Bks.ext (fin_three (hw.trans (hE.trans hF)) hB3 hz fr2.out (hw.trans hE).size).2.1 ?_); exact Ext.drew (Ext.refl _)) | (exact cells3 (fin_three (hw.trans (hE.trans hF)) hB3 hz fr1.out hw.size).2.1) | (refine cells3 (Bks.ext (fin_three (hw.trans (hE.trans hF)) hB3 hz fr1.out hw.size).2.1 ?_); exact Ext.drew (Ext.refl _)))
      (first
      | (go_at_call 14; refine (ballX_c a f _).mono ?_; rintro e w2 ⟨rfl, hx⟩; have hE : Ext w1 w2 := (by first | exact (ext1 hx.of_drew).2 | exact hx.of_drew | exact bareN hx rfl rfl rfl rfl); (first | (have hz := (ext1 hx.of_drew).1) | skip); clear kc kl; have hB2 := hB.ext hE; have fr2 := Lib.hid hB2.fresh; have kc := And.intro hB2.1.cell (And.intro hB2.2.1.cell hB2.2.2.1.cell); have kl := And.intro hB2.1.lt (And.intro hB2.2.1.lt hB2.2.2.1.lt))
      | (go_at_call 13; ((first | (refine (between_c' HI.out w2 (h8.ext (hw.trans hE))).mono ?_) | (refine (between_c' HI.out _ (h8.ext ((hw.trans hE).alloc _))).mono ?_)); rintro e w3 ⟨fr, e1, rfl, hfr, he1, hx'⟩; have hF : Ext w2 w3 := (by first | exact bareN hx' rfl rfl rfl rfl | exact bareN (ext1 hx').2 rfl rfl rfl rfl); (first | (have hz := (ext1 hx').1) | (replace hz := hz.ext hF) | skip); have hB3 := hB2.ext hF; clear kc; (first | (have cZ := hz.cell; have fZ := hz.frozen) | skip))))
    all_goals
      have hL3 : Ext w w3 := (hw.trans hE).trans hF
      have s1 : w.heap.size ≤ w1.heap.size := hw.size
      have s2 : w.heap.size ≤ w2.heap.size := (hw.trans hE).size
      (try go_wp2_with fail)
      go_meet
      first
        | exact ⟨w3.heap.size, _, fr, rfl, rfl, hfr, he1, fin_new hL3 hB3⟩
        | exact ⟨w2.heap.size, _, fr, rfl, rfl, hfr, he1, fin_three hL3 hB3 hz fr2.out s2⟩
        | exact ⟨w1.heap.size, _, fr, rfl, rfl, hfr, he1, fin_three hL3 hB3 hz fr1.out s1⟩
  case rest =>
    clear hB hw kc kl
    obtain ⟨nb, e1, fr, rfl, rfl, hfr, he1, hw, hB, hP⟩ := hcut
    have kc := And.intro hB.1.cell (And.intro hB.2.1.cell hB.2.2.1.cell)
    go_wp2_with (first
      | (go_at_call 15; go_must (refine (lineOf_c HI.out _).mono ?_; rintro e v1 ⟨fw, rfl, hfw, hx⟩; clear kc; replace hB := hB.ext (bareN hx rfl rfl rfl rfl); replace hP := hP.ext (bareN hx rfl rfl rfl rfl); replace hw := hw.trans (bareN hx rfl rfl rfl rfl); clear hx))
      | (refine wpList_own rfl 44 _ _ rfl _ _ rfl rfl _ _ (Blk.new _ _ _) (by kernel_rfl) rfl (by simp [Value.oneCell']) ?_; go_must (intro u bn en sn; have hlt := hP.lt; replace hP := hP.keep _ sn; replace hw := en _ (by repeat (first | exact hw | refine Ext.drewN ?_ _ | refine Ext.alloc ?_ _)) hw.size; clear en sn hB))
      | (go_at_call 16; go_must (refine (coded_c (H8.out.ext hw) he1 _).mono ?_; rintro e v2 ⟨rfl, hx⟩; rw [decide_eq_true (rfl : k = k)]; replace hP := hP.ext hx; replace bn := bn.ext hx; replace hw := hw.trans hx; clear hx; have kc := And.intro hP.cell bn.cell))
      | (go_at_call 17; go_must (refine (sameBits_c fr fw _ (hfr.trans hfw.symm)).mono ?_; rintro e v2 ⟨rfl, hx⟩; clear kc; replace hP := hP.ext hx; replace bn := bn.ext hx; replace hw := hw.trans hx; clear hx; have kc := And.intro hP.cell bn.cell)))
    all_goals go_ret
    all_goals exact ⟨rfl, hw⟩

end Go.Proofs.YtegbkidjehjhmaaDoor
