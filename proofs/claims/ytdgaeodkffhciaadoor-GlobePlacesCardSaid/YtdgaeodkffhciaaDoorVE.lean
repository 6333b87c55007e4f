/- The walk of the law GlobePlaces. Printed by gen_places.py. -/
import Derived.Test.YtdgaeodkffhciaaDoorVC
import Derived.Test.YtdgaeodkffhciaaDoorV3
import Derived.Deep.RegionWith
namespace Go.Proofs.YtdgaeodkffhciaaDoor
open Go.RowKit Go.Fp Go.Rel
set_option maxRecDepth 20000

theorem can_num {x c : Nat} (h : can x = c) (hc : isNan c = false) : x = c := by
  cases hn : isNan x
  · rw [can_of_not hn] at h; exact h
  · rw [can_of_nan hn] at h
    subst h
    exact absurd hc (by decide +kernel)
abbrev five : Nat := 4617315517961601024
theorem round_is : VecIs five 0 0 0 0 (fmul (vecD five 0 0 0) (can (cosP 0))) (fmul (vecD five 0 0 0) (can (sinP 0))) (vecZ five 0 0 0) 0 := .ok (by decide +kernel) (by decide) (by decide) (by decide +kernel)
theorem round_x : fmul (vecD five 0 0 0) (can (cosP 0)) = five := by decide +kernel
set_option maxHeartbeats 4000000 in
theorem round_c {A : Nat → Addr} (w : World) (h8 : World8 A w) : Calls Tryd.prog 26 #[] w (ExR (.bool true) w) := by
  have q1 : FloatKind.f64.format.order five five = some .eq := by kernel_rfl
  go_enter Tryd.func26, Tryd.ntmps26
  go_wp2_with (first
    | (go_at_call 27; refine (vec_c round_is _ h8).mono ?_; rintro e w1 ⟨x, y, z, v, rfl, h1, _, _, hv, hx⟩; cases hv; obtain rfl := can_num (h1.trans round_x) (by decide +kernel)))
  go_ret
  refine ⟨rfl, ?_⟩
  repeat (first | exact hx | refine Ext.alloc ?_ _)

def RV (A : Nat → Addr) (X Y Z : Nat) (k : Int) (v : Value) : Prop := ∃ x y z e, v = .tuple #[vecV x y z, e] ∧ can x = X ∧ can y = Y ∧ can z = Z ∧ ErrOf A k e
theorem VecR.call' {A : Nat → Addr} {X Y Z : Nat} {k : Int} {P : Program} {f : FuncId} {args : Array Value} {W : World} (h : Calls P f args W (VecR A X Y Z k W)) : Calls P f args W (fun e w' => ∃ v, e = .returned v ∧ RV A X Y Z k v ∧ Ext W w') :=
  h.mono fun _ _ ⟨x, y, z, v, he, h1, h2, h3, h4, hx⟩ => ⟨_, he, ⟨x, y, z, v, rfl, h1, h2, h3, h4⟩, hx⟩
def RP (A : Nat → Addr) (lon lat : Int) (H : Nat) (k : Int) (v : Value) : Prop := ∃ h e, v = .tuple #[placeV lon lat, .float .f64 h, e] ∧ can h = H ∧ ErrOf A k e
theorem PlaceR.call' {A : Nat → Addr} {lon lat : Int} {H : Nat} {k : Int} {P : Program} {f : FuncId} {args : Array Value} {W : World} (h : Calls P f args W (PlaceR A lon lat H k W)) : Calls P f args W (fun e w' => ∃ v, e = .returned v ∧ RP A lon lat H k v ∧ Ext W w') :=
  h.mono fun _ _ ⟨h, v, he, h1, h4, hx⟩ => ⟨_, he, ⟨h, v, rfl, h1, h4⟩, hx⟩


theorem fin_alloc {w w3 : World} {nG nP nV : Nat} {tG tP tV t : TypeId} {cG cP cV cs : Array Value} (h : Ext w w3) (hG : Blk w3 nG tG cG) (hP : Blk w3 nP tP cP) (hV : Blk w3 nV tV cV) :
    Ext w (w3.alloc (.cells cs t)) ∧ Blk (w3.alloc (.cells cs t)) nG tG cG ∧ Blk (w3.alloc (.cells cs t)) nP tP cP ∧ Blk (w3.alloc (.cells cs t)) nV tV cV ∧ Blk (w3.alloc (.cells cs t)) w3.heap.size t cs ∧ nV < w3.heap.size :=
  ⟨h.alloc _, hG.ext ((Ext.refl _).alloc _), hP.ext ((Ext.refl _).alloc _), hV.ext ((Ext.refl _).alloc _), Blk.new _ _ _, hV.lt⟩
theorem setCell_heap_other (w : World) (n i k : Nat) (v : Value) (h : k ≠ n) : (w.setCell ⟨n, i, none⟩ v).heap[k]? = w.heap[k]? := Below.heap_setCell _ _ _ _ h
theorem blk_set {w : World} {n i : Nat} {t : TypeId} {cs : Array Value} (v : Value) (h : Blk w n t cs) : Blk (w.setCell ⟨n, i, none⟩ v) n t (cs.setIfInBounds i v) := by
  unfold Blk at *
  simp [World.setCell, Array.getElem?_modify, h]
theorem fin_set3 {w w3 : World} {nG nP nV n : Nat} {tG tP tV t : TypeId} {cG cP cV : Array Value} {a b c u v x : Value} (h : Ext w w3) (hG : Blk w3 nG tG cG) (hP : Blk w3 nP tP cP) (hV : Blk w3 nV tV cV) (hz : Blk w3 n t #[a, b, c]) (hGn : nG < n) (hPn : nP < n) (hVn : nV < n) (hw : w.heap.size ≤ n) :
    Ext w (((w3.setCell ⟨n, 0, none⟩ u).setCell ⟨n, 1, none⟩ v).setCell ⟨n, 2, none⟩ x) ∧ Blk (((w3.setCell ⟨n, 0, none⟩ u).setCell ⟨n, 1, none⟩ v).setCell ⟨n, 2, none⟩ x) nG tG cG ∧
    Blk (((w3.setCell ⟨n, 0, none⟩ u).setCell ⟨n, 1, none⟩ v).setCell ⟨n, 2, none⟩ x) nP tP cP ∧ Blk (((w3.setCell ⟨n, 0, none⟩ u).setCell ⟨n, 1, none⟩ v).setCell ⟨n, 2, none⟩ x) nV tV cV ∧
    Blk (((w3.setCell ⟨n, 0, none⟩ u).setCell ⟨n, 1, none⟩ v).setCell ⟨n, 2, none⟩ x) n t #[u, v, x] ∧ nV < n := by
  have ho : ∀ k, k ≠ n → (((w3.setCell ⟨n, 0, none⟩ u).setCell ⟨n, 1, none⟩ v).setCell ⟨n, 2, none⟩ x).heap[k]? = w3.heap[k]? := fun k hk => by
    rw [setCell_heap_other _ _ _ _ _ hk, setCell_heap_other _ _ _ _ _ hk, setCell_heap_other _ _ _ _ _ hk]
  refine ⟨((h.setCell hw _).setCell hw _).setCell hw _, hG.other ho (by omega), hP.other ho (by omega), hV.other ho (by omega), ?_, hVn⟩
  simpa using blk_set (i := 2) x (blk_set (i := 1) v (blk_set (i := 0) u hz))
theorem fin_set2 {w w3 : World} {nG nP nV n : Nat} {tG tP tV t : TypeId} {cG cP cV : Array Value} {a b u v : Value} (h : Ext w w3) (hG : Blk w3 nG tG cG) (hP : Blk w3 nP tP cP) (hV : Blk w3 nV tV cV) (hz : Blk w3 n t #[a, b]) (hGn : nG < n) (hPn : nP < n) (hVn : nV < n) (hw : w.heap.size ≤ n) :
    Ext w ((w3.setCell ⟨n, 0, none⟩ u).setCell ⟨n, 1, none⟩ v) ∧ Blk ((w3.setCell ⟨n, 0, none⟩ u).setCell ⟨n, 1, none⟩ v) nG tG cG ∧
    Blk ((w3.setCell ⟨n, 0, none⟩ u).setCell ⟨n, 1, none⟩ v) nP tP cP ∧ Blk ((w3.setCell ⟨n, 0, none⟩ u).setCell ⟨n, 1, none⟩ v) nV tV cV ∧
    Blk ((w3.setCell ⟨n, 0, none⟩ u).setCell ⟨n, 1, none⟩ v) n t #[u, v] ∧ nV < n := by
  have ho : ∀ k, k ≠ n → ((w3.setCell ⟨n, 0, none⟩ u).setCell ⟨n, 1, none⟩ v).heap[k]? = w3.heap[k]? := fun k hk => by
    rw [setCell_heap_other _ _ _ _ _ hk, setCell_heap_other _ _ _ _ _ hk]
  refine ⟨(h.setCell hw _).setCell hw _, hG.other ho (by omega), hP.other ho (by omega), hV.other ho (by omega), ?_, hVn⟩
  simpa using blk_set (i := 1) v (blk_set (i := 0) u hz)

set_option maxHeartbeats 40000000 in
theorem globePlaces_walk {A : Nat → Addr} (a f : Nat) (lon lat : Int) (high : Nat) (x y z : Nat) (w : World) (h8 : World8 A w) :
    Calls Tryd.prog 6 #[globeV a f, placeV lon lat, .float .f64 high, vecV x y z] w (ExR (.bool true) w) := by
  obtain ⟨X, Y, Z, k, hv⟩ := vec_some a f lon lat high
  obtain ⟨lo, la, H, j, hp⟩ := place_some a f x y z
  have HVI := Lib.hid hv
  have HPI := Lib.hid hp
  clear hv hp
  have tk : Hid True := trivial
  go_enter Tryd.func6, Tryd.ntmps6
  go_wp2_with (first
    | (go_at_call 26; refine (round_c _ (h8.ext ((((Ext.refl w).alloc _).alloc _).alloc _))).mono ?_; rintro e w1 ⟨rfl, hx⟩; obtain ⟨hbG, hbP, hbV, hw⟩ := ext3 hx; clear hx))
  have cG := hbG.cell
  have cP := hbP.cell
  have lG := hbG.lt
  have lP := hbP.lt
  have lV := hbV.lt
  obtain ⟨KK, hKK⟩ : ∃ KK : Act → World → Prop, ∀ a' w', KK a' w' ↔ ( ∃ (nb x1 y1 z1 : Nat) (e1 u25 u26 u27 u28 u29 u30 u31 u32 : Value), a' = { tmps := (globeV a f :: placeV lon lat :: .float .f64 high :: vecV x y z :: .pointer (some ⟨w.heap.size, 0, none⟩) :: .pointer (some ⟨w.heap.size + 1, 0, none⟩) :: undef :: .pointer (some ⟨w.heap.size + 1 + 1, 0, none⟩) :: .bool false :: .bool true :: .pointer (some ⟨nb, 0, none⟩) :: e1 :: undef :: undef :: undef :: undef :: undef :: undef :: undef :: undef :: undef :: undef :: .bool true :: .bool true :: .bool false :: u25 :: u26 :: u27 :: u28 :: u29 :: u30 :: u31 :: u32 :: undef :: undef :: undef :: undef :: undef :: undef :: undef :: undef :: undef :: undef :: undef :: undef :: undef :: undef :: undef :: undef :: undef :: undef :: undef :: undef :: undef :: undef :: undef :: undef :: undef :: undef :: undef :: undef :: undef :: undef :: undef :: undef :: undef :: undef :: undef :: undef :: undef :: undef :: undef :: undef :: undef :: undef :: undef :: undef :: undef :: undef :: undef :: undef :: undef :: []).toArray, defers := [] } ∧ can x1 = X ∧ can y1 = Y ∧ can z1 = Z ∧ ErrOf A k e1 ∧ Ext w w' ∧ Blk w' w.heap.size 50 #[.float .f64 a, .float .f64 f] ∧ Blk w' (w.heap.size + 1) 64 #[.int .i64 lon, .int .i64 lat] ∧ Blk w' (w.heap.size + 1 + 1) 66 #[.float .f64 x, .float .f64 y, .float .f64 z] ∧
    Blk w' nb 66 #[.float .f64 x1, .float .f64 y1, .float .f64 z1] ∧ w.heap.size + 1 + 1 < nb) := ⟨_, fun _ _ => Iff.rfl⟩
  have HQ := Lib.hid hKK
  clear hKK
  refine Code.wp_mono (Q := Exit.then KK (fun _ _ _ => False)) ?mono ?reg
  case reg =>
    go_region_with (first
      | (go_at_call 20; refine (ball_c a f _).mono ?_; rintro e w2 ⟨rfl, hx⟩; have hE : Ext w1 w2 := (by first | exact (ext1 hx.of_drew).2 | exact hx.of_drew | exact bareE hx rfl rfl rfl rfl); (first | (have hz := (ext1 hx.of_drew).1) | skip); clear cG cP lG lP; have cP := (hbP.ext hE).cell; have lP := (hbP.ext hE).lt)
      | (go_at_call 27; go_loud (((first | (refine (vec_c HVI.out w2 (h8.ext (hw.trans hE))).mono ?_) | (refine (vec_c HVI.out _ (h8.ext ((hw.trans hE).alloc _))).mono ?_)); rintro e w3 ⟨x1, y1, z1, e1, rfl, hx1, hy1, hz1, he1, hx'⟩; have hF : Ext w2 w3 := (by first | exact bareE hx' rfl rfl rfl rfl | exact bareE (ext1 hx').2 rfl rfl rfl rfl); (first | (have hz := (ext1 hx').1) | (replace hz := hz.ext hF) | skip); clear cP; (first | (have cZ := hz.cell; have fZ := hz.frozen) | skip)))))
    all_goals
      have hL3 : Ext w w3 := (hw.trans hE).trans hF
      have kG1 := hbG.lt
      have kP1 := hbP.lt
      have kV1 := hbV.lt
      have kG2 := (hbG.ext hE).lt
      have kP2 := (hbP.ext hE).lt
      have kV2 := (hbV.ext hE).lt
      have bG3 := (hbG.ext hE).ext hF
      have bP3 := (hbP.ext hE).ext hF
      have bV3 := (hbV.ext hE).ext hF
      have s1 : w.heap.size ≤ w1.heap.size := hw.size
      have s2 : w.heap.size ≤ w2.heap.size := (hw.trans hE).size
      show KK _ _
      first
        | exact (HQ.out _ _).2 ⟨w3.heap.size, x1, y1, z1, e1, _, _, _, _, _, _, _, _, rfl, hx1, hy1, hz1, he1, fin_alloc hL3 bG3 bP3 bV3⟩
        | exact (HQ.out _ _).2 ⟨w2.heap.size, x1, y1, z1, e1, _, _, _, _, _, _, _, _, rfl, hx1, hy1, hz1, he1, fin_set3 hL3 bG3 bP3 bV3 hz kG2 kP2 kV2 s2⟩
        | exact (HQ.out _ _).2 ⟨w1.heap.size, x1, y1, z1, e1, _, _, _, _, _, _, _, _, rfl, hx1, hy1, hz1, he1, fin_set3 hL3 bG3 bP3 bV3 hz kG1 kP1 kV1 s1⟩
  clear hbG hbP hbV hw cG cP lG lP lV
  intro e a' w1 hq
  cases e <;> first | exact hq.elim | skip
  obtain ⟨nb, x1, y1, z1, e1, u25, u26, u27, u28, u29, u30, u31, u32, rfl, hx1, hy1, hz1, he1, hw, hbG, hbP, hbV, hbA, hnb⟩ := (HQ.out _ _).1 hq
  clear hq HQ
  have cG := hbG.cell
  have cP := hbP.cell
  have cV := hbV.cell
  have cA := hbA.cell
  go_wp2_with (first
    | (go_at_call 28; refine (vecOf_c HVI.out _).mono ?_; rintro e w1 ⟨x2, y2, z2, rfl, hx2, hy2, hz2, hx⟩; replace hbG := hbG.ext (bareE hx rfl rfl rfl rfl); replace hbP := hbP.ext (bareE hx rfl rfl rfl rfl); replace hbV := hbV.ext (bareE hx rfl rfl rfl rfl); replace hbA := hbA.ext (bareE hx rfl rfl rfl rfl); replace hw := hw.trans (bareE hx rfl rfl rfl rfl); try clear cG cP cV cA; have cG := hbG.cell; have cP := hbP.cell; have cV := hbV.cell; have cA := hbA.cell; clear hx)
    | (go_at_call 11; clear tk; refine (coded_c (h8.ext (bareE2 (hw.alloc _) rfl rfl rfl rfl)) he1 _).mono ?_; rintro e w1 ⟨rfl, hx⟩; obtain ⟨hbB, hx⟩ := ext1 hx; replace hbG := hbG.ext (bareE hx rfl rfl rfl rfl); replace hbP := hbP.ext (bareE hx rfl rfl rfl rfl); replace hbV := hbV.ext (bareE hx rfl rfl rfl rfl); replace hbA := hbA.ext (bareE hx rfl rfl rfl rfl); replace hw := hw.trans (bareE hx rfl rfl rfl rfl); try clear cG cP cV cA; have cG := hbG.cell; have cP := hbP.cell; have cV := hbV.cell; have cA := hbA.cell; clear hx; have cB := hbB.cell)
    | (go_at_call 29; refine (sameVec_c x1 y1 z1 x2 y2 z2 _ (hx1.trans hx2.symm) (hy1.trans hy2.symm) (hz1.trans hz2.symm)).mono ?_; rintro e w1 ⟨rfl, hx⟩; replace hbG := hbG.ext (bareE hx rfl rfl rfl rfl); replace hbP := hbP.ext (bareE hx rfl rfl rfl rfl); replace hbV := hbV.ext (bareE hx rfl rfl rfl rfl); replace hw := hw.trans (bareE hx rfl rfl rfl rfl); try clear cG cP cV; have cG := hbG.cell; have cP := hbP.cell; have cV := hbV.cell; clear hx))
  clear cA cB hbA hbB hnb
  have lG := hbG.lt
  have lP := hbP.lt
  have lV := hbV.lt
  obtain ⟨KK, hKK⟩ : ∃ KK : Act → World → Prop, ∀ a' w', KK a' w' ↔ ( ∃ (nb h1 : Nat) (e2 u10 u12 u13 u18 u19 u20 u21 u22 u23 u24 u25 u26 u27 u28 u29 u30 u31 u32 u33 u34 u35 u36 u37 u38 u39 u40 u41 u42 u43 u44 u45 u46 u47 u48 u49 u50 u51 u52 u53 u54 u55 u56 u57 u58 u59 u60 u61 u62 u63 u64 u65 u66 u67 u68 u69 u70 u71 u72 u73 u74 u75 u76 u77 u78 u79 u80 u81 : Value), a' = { tmps := (globeV a f :: placeV lon lat :: .float .f64 high :: vecV x y z :: .pointer (some ⟨w.heap.size, 0, none⟩) :: .pointer (some ⟨w.heap.size + 1, 0, none⟩) :: undef :: .pointer (some ⟨w.heap.size + 1 + 1, 0, none⟩) :: .bool false :: .bool true :: u10 :: e2 :: u12 :: u13 :: .bool true :: .bool true :: .pointer (some ⟨nb, 0, none⟩) :: .float .f64 h1 :: u18 :: u19 :: u20 :: u21 :: u22 :: u23 :: u24 :: u25 :: u26 :: u27 :: u28 :: u29 :: u30 :: u31 :: u32 :: u33 :: u34 :: u35 :: u36 :: u37 :: u38 :: u39 :: u40 :: u41 :: u42 :: u43 :: u44 :: u45 :: u46 :: u47 :: u48 :: u49 :: u50 :: u51 :: u52 :: u53 :: u54 :: u55 :: u56 :: u57 :: u58 :: u59 :: u60 :: u61 :: u62 :: u63 :: u64 :: u65 :: u66 :: u67 :: u68 :: u69 :: u70 :: u71 :: u72 :: u73 :: u74 :: u75 :: u76 :: u77 :: u78 :: u79 :: u80 :: u81 :: []).toArray, defers := [] } ∧ can h1 = H ∧ ErrOf A j e2 ∧ Ext w w' ∧ Blk w' w.heap.size 50 #[.float .f64 a, .float .f64 f] ∧ Blk w' (w.heap.size + 1) 64 #[.int .i64 lon, .int .i64 lat] ∧ Blk w' (w.heap.size + 1 + 1) 66 #[.float .f64 x, .float .f64 y, .float .f64 z] ∧
    Blk w' nb 64 #[.int .i64 lo, .int .i64 la] ∧ w.heap.size + 1 + 1 < nb) := ⟨_, fun _ _ => Iff.rfl⟩
  have HQ := Lib.hid hKK
  clear hKK
  refine Code.wp_mono (Q := Exit.then KK (fun _ _ _ => False)) ?mono2 ?reg2
  case reg2 =>
    go_region_with (first
      | (go_at_call 20; refine (ball_c a f _).mono ?_; rintro e w2 ⟨rfl, hx⟩; have hE : Ext w1 w2 := (by first | exact (ext1 hx.of_drew).2 | exact hx.of_drew | exact bareE hx rfl rfl rfl rfl); (first | (have hz := (ext1 hx.of_drew).1) | skip); clear cG cP cV lG lP lV; have cV := (hbV.ext hE).cell; have lV := (hbV.ext hE).lt)
      | (go_at_call 30; (first | (refine (place_c HPI.out w2 (h8.ext (hw.trans hE))).mono ?_) | (refine (place_c HPI.out _ (h8.ext ((hw.trans hE).alloc _))).mono ?_)); rintro e w3 ⟨h1, e2, rfl, hh1, he2, hx'⟩; have hF : Ext w2 w3 := (by first | exact bareE hx' rfl rfl rfl rfl | exact bareE (ext1 hx').2 rfl rfl rfl rfl); (first | (have hz := (ext1 hx').1) | (replace hz := hz.ext hF) | skip); clear cV; (first | (have cZ := hz.cell; have fZ := hz.frozen) | skip)))
    all_goals
      have hL3 : Ext w w3 := (hw.trans hE).trans hF
      have kG1 := hbG.lt
      have kP1 := hbP.lt
      have kV1 := hbV.lt
      have kG2 := (hbG.ext hE).lt
      have kP2 := (hbP.ext hE).lt
      have kV2 := (hbV.ext hE).lt
      have bG3 := (hbG.ext hE).ext hF
      have bP3 := (hbP.ext hE).ext hF
      have bV3 := (hbV.ext hE).ext hF
      have s1 : w.heap.size ≤ w1.heap.size := hw.size
      have s2 : w.heap.size ≤ w2.heap.size := (hw.trans hE).size
      show KK _ _
      first
        | exact (HQ.out _ _).2 ⟨w3.heap.size, h1, e2, _, _, _, _, _, _, _, _, _, _, _, _, _, _, _, _, _, _, _, _, _, _, _, _, _, _, _, _, _, _, _, _, _, _, _, _, _, _, _, _, _, _, _, _, _, _, _, _, _, _, _, _, _, _, _, _, _, _, _, _, _, _, _, _, _, _, _, rfl, hh1, he2, fin_alloc hL3 bG3 bP3 bV3⟩
        | exact (HQ.out _ _).2 ⟨w2.heap.size, h1, e2, _, _, _, _, _, _, _, _, _, _, _, _, _, _, _, _, _, _, _, _, _, _, _, _, _, _, _, _, _, _, _, _, _, _, _, _, _, _, _, _, _, _, _, _, _, _, _, _, _, _, _, _, _, _, _, _, _, _, _, _, _, _, _, _, _, _, _, rfl, hh1, he2, fin_set2 hL3 bG3 bP3 bV3 hz kG2 kP2 kV2 s2⟩
        | exact (HQ.out _ _).2 ⟨w1.heap.size, h1, e2, _, _, _, _, _, _, _, _, _, _, _, _, _, _, _, _, _, _, _, _, _, _, _, _, _, _, _, _, _, _, _, _, _, _, _, _, _, _, _, _, _, _, _, _, _, _, _, _, _, _, _, _, _, _, _, _, _, _, _, _, _, _, _, _, _, _, _, rfl, hh1, he2, fin_set2 hL3 bG3 bP3 bV3 hz kG1 kP1 kV1 s1⟩
  clear hbG hbP hbV hw cG cP cV lG lP lV
  intro e a' w1 hq
  cases e <;> first | exact hq.elim | skip
  obtain ⟨nb, h1, e2, u10, u12, u13, u18, u19, u20, u21, u22, u23, u24, u25, u26, u27, u28, u29, u30, u31, u32, u33, u34, u35, u36, u37, u38, u39, u40, u41, u42, u43, u44, u45, u46, u47, u48, u49, u50, u51, u52, u53, u54, u55, u56, u57, u58, u59, u60, u61, u62, u63, u64, u65, u66, u67, u68, u69, u70, u71, u72, u73, u74, u75, u76, u77, u78, u79, u80, u81, rfl, hh1, he2, hw, hbG, hbP, hbV, hbC, hnb⟩ := (HQ.out _ _).1 hq
  clear hq HQ
  have cG := hbG.cell
  have cP := hbP.cell
  have cV := hbV.cell
  have cC := hbC.cell
  go_wp2_with (first
    | (go_at_call 31; refine (placeOf_c HPI.out _).mono ?_; rintro e w1 ⟨h2, rfl, hh2, hx⟩; replace hbG := hbG.ext (bareE hx rfl rfl rfl rfl); replace hbP := hbP.ext (bareE hx rfl rfl rfl rfl); replace hbV := hbV.ext (bareE hx rfl rfl rfl rfl); replace hbC := hbC.ext (bareE hx rfl rfl rfl rfl); replace hw := hw.trans (bareE hx rfl rfl rfl rfl); try clear cG cP cV cC; have cG := hbG.cell; have cP := hbP.cell; have cV := hbV.cell; have cC := hbC.cell; clear hx)
    | (go_at_call 11; refine (coded_c (h8.ext (bareE2 (hw.alloc _) rfl rfl rfl rfl)) he2 _).mono ?_; rintro e w1 ⟨rfl, hx⟩; obtain ⟨hbD, hx⟩ := ext1 hx; replace hbG := hbG.ext (bareE hx rfl rfl rfl rfl); replace hbP := hbP.ext (bareE hx rfl rfl rfl rfl); replace hbV := hbV.ext (bareE hx rfl rfl rfl rfl); replace hbC := hbC.ext (bareE hx rfl rfl rfl rfl); replace hw := hw.trans (bareE hx rfl rfl rfl rfl); try clear cG cP cV cC; have cG := hbG.cell; have cP := hbP.cell; have cV := hbV.cell; have cC := hbC.cell; clear hx; have cD := hbD.cell)
    | (go_at_call 23; refine (sameBits_c h1 h2 _ (hh1.trans hh2.symm)).mono ?_; rintro e w1 ⟨rfl, hx⟩; replace hbC := hbC.ext (bareE hx rfl rfl rfl rfl); replace hbD := hbD.ext (bareE hx rfl rfl rfl rfl); replace hw := hw.trans (bareE hx rfl rfl rfl rfl); try clear cC cD; have cC := hbC.cell; have cD := hbD.cell; clear hx))
  go_ret
  exact ⟨rfl, hw⟩
end Go.Proofs.YtdgaeodkffhciaaDoor
