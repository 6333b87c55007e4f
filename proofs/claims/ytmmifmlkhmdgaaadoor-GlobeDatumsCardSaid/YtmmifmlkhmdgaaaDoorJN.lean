/- The walk of the statement GlobeDatums. Printed by gen_datumlaw.py. -/
import Derived.Test.YtmmifmlkhmdgaaaDoorJM
namespace Go.Proofs.YtmmifmlkhmdgaaaDoor
open Go.RowKit Go.Fp Go.Rel
set_option maxRecDepth 20000

theorem cells2 {w' : World} {n : Nat} {tD tV : TypeId} {X Y Z A B C S x y z : Nat} {l : List (Nat × TypeId × Array Value)} (h : Bks w' ((n, tD, #[Value.float .f64 X, Value.float .f64 Y, Value.float .f64 Z, Value.float .f64 A, Value.float .f64 B, Value.float .f64 C, Value.float .f64 S]) :: (n + 1, tV, #[Value.float .f64 x, Value.float .f64 y, Value.float .f64 z]) :: l)) :
    w'.cell? ⟨n, 0, none⟩ = some (.float .f64 X) ∧ w'.cell? ⟨n, 1, none⟩ = some (.float .f64 Y) ∧ w'.cell? ⟨n, 2, none⟩ = some (.float .f64 Z) ∧ w'.cell? ⟨n, 3, none⟩ = some (.float .f64 A) ∧ w'.cell? ⟨n, 4, none⟩ = some (.float .f64 B) ∧ w'.cell? ⟨n, 5, none⟩ = some (.float .f64 C) ∧ w'.cell? ⟨n, 6, none⟩ = some (.float .f64 S) ∧ w'.cell? ⟨n + 1, 0, none⟩ = some (.float .f64 x) ∧ w'.cell? ⟨n + 1, 1, none⟩ = some (.float .f64 y) ∧ w'.cell? ⟨n + 1, 2, none⟩ = some (.float .f64 z) :=
  ⟨h.1.cell 0, h.1.cell 1, h.1.cell 2, h.1.cell 3, h.1.cell 4, h.1.cell 5, h.1.cell 6, h.2.1.cell 0, h.2.1.cell 1, h.2.1.cell 2⟩
theorem cells3 {w' : World} {n nx : Nat} {tD tV : TypeId} {X Y Z A B C S x y z a1 a2 a3 : Nat} {l : List (Nat × TypeId × Array Value)} (h : Bks w' ((n, tD, #[Value.float .f64 X, Value.float .f64 Y, Value.float .f64 Z, Value.float .f64 A, Value.float .f64 B, Value.float .f64 C, Value.float .f64 S]) :: (n + 1, tV, #[Value.float .f64 x, Value.float .f64 y, Value.float .f64 z]) :: (nx, tV, #[Value.float .f64 a1, Value.float .f64 a2, Value.float .f64 a3]) :: l)) :
    w'.cell? ⟨n, 0, none⟩ = some (.float .f64 X) ∧ w'.cell? ⟨n, 1, none⟩ = some (.float .f64 Y) ∧ w'.cell? ⟨n, 2, none⟩ = some (.float .f64 Z) ∧ w'.cell? ⟨n, 3, none⟩ = some (.float .f64 A) ∧ w'.cell? ⟨n, 4, none⟩ = some (.float .f64 B) ∧ w'.cell? ⟨n, 5, none⟩ = some (.float .f64 C) ∧ w'.cell? ⟨n, 6, none⟩ = some (.float .f64 S) ∧ w'.cell? ⟨n + 1, 0, none⟩ = some (.float .f64 x) ∧ w'.cell? ⟨n + 1, 1, none⟩ = some (.float .f64 y) ∧ w'.cell? ⟨n + 1, 2, none⟩ = some (.float .f64 z) ∧ w'.cell? ⟨nx, 0, none⟩ = some (.float .f64 a1) ∧ w'.cell? ⟨nx, 1, none⟩ = some (.float .f64 a2) ∧ w'.cell? ⟨nx, 2, none⟩ = some (.float .f64 a3) :=
  ⟨h.1.cell 0, h.1.cell 1, h.1.cell 2, h.1.cell 3, h.1.cell 4, h.1.cell 5, h.1.cell 6, h.2.1.cell 0, h.2.1.cell 1, h.2.1.cell 2, h.2.2.1.cell 0, h.2.2.1.cell 1, h.2.2.1.cell 2⟩
abbrev cSix : Nat := 4618441417868443648
abbrev cFive : Nat := 4617315517961601024
theorem datum_num : okD cFive 0 0 0 0 0 0 = true ∧ okV cOne 0 0 = true ∧ toX (can cFive) (can 0) (can 0) (kD (can 0)) (can cOne) (can 0) (can 0) = cSix ∧ isNan cSix = false := by decide +kernel
/-- a vector and an error, told -/
def isVE (A0 : Nat → Addr) (K : Int) (PX PY PZ : Nat) (v : Value) : Prop := ∃ a1 a2 a3 e1, v = .tuple #[vecU a1 a2 a3, e1] ∧ ErrOf A0 K e1 ∧ can a1 = PX ∧ can a2 = PY ∧ can a3 = PZ
def isV3 (PX PY PZ : Nat) (v : Value) : Prop := ∃ a1 a2 a3, v = vecU a1 a2 a3 ∧ can a1 = PX ∧ can a2 = PY ∧ can a3 = PZ
theorem VeE.at {A0 : Nat → Addr} {P : Program} {f : FuncId} {args : Array Value} {PX PY PZ : Nat} {W : World} (h : Calls P f args W (VeE PX PY PZ .nilIface W)) : Calls P f args W (fun e w' => ∃ a1 a2 a3 e1, e = .returned (.tuple #[vecU a1 a2 a3, e1]) ∧ ErrOf A0 0 e1 ∧ can a1 = PX ∧ can a2 = PY ∧ can a3 = PZ ∧ Ext W w') :=
  h.mono fun _ _ ⟨x, y, z, he, h1, h2, h3, hx⟩ => ⟨x, y, z, _, he, .nil, h1, h2, h3, hx⟩
theorem bad_at {A0 : Nat → Addr} {P : Program} {f : FuncId} {args : Array Value} {K : Int} {v : Value} {W : World} (hv : ErrOf A0 K v) (h : Calls P f args W (ExR (.tuple #[vecU 0 0 0, v]) W)) : Calls P f args W (fun e w' => ∃ a1 a2 a3 e1, e = .returned (.tuple #[vecU a1 a2 a3, e1]) ∧ ErrOf A0 K e1 ∧ can a1 = 0 ∧ can a2 = 0 ∧ can a3 = 0 ∧ Ext W w') :=
  h.mono fun _ _ ⟨he, hx⟩ => ⟨0, 0, 0, _, he, hv, can0, can0, can0, hx⟩
theorem VeR.call {P : Program} {f : FuncId} {args : Array Value} {PX PY PZ : Nat} {W : World} (h : Calls P f args W (VeR PX PY PZ W)) : Calls P f args W (fun e w' => ∃ v, e = .returned v ∧ isV3 PX PY PZ v ∧ Ext W w') :=
  h.mono fun _ _ ⟨x, y, z, he, h1, h2, h3, hx⟩ => ⟨_, he, ⟨x, y, z, rfl, h1, h2, h3⟩, hx⟩

set_option maxHeartbeats 16000000 in
theorem datums_bad3 {A0 : Nat → Addr} (X Y Z A B C S x y z : Nat) (w : World) (h8 : World8 A0 w) (hd : okD X Y Z A B C S = false) (hk : dvK (okD X Y Z A B C S) (okV x y z) = 3) :
    Calls Tryd.prog 4 #[datV X Y Z A B C S, vecU x y z] w (ExR (.bool true) w) := by
  have HT := Lib.hid (fun (w : World) (h8 : World8 A0 w) => bad_at (A0 := A0) (K := 3) .shape (dto_bad3 X Y Z A B C S x y z hk w h8))
  have HF := Lib.hid (fun (w : World) (h8 : World8 A0 w) => bad_at (A0 := A0) (K := 3) .shape (dfrom_bad3 X Y Z A B C S x y z hk w h8))
  have HV0 := fun (w : World) (h8 : World8 A0 w) => dvalid_c (A0 := A0) X Y Z A B C S w h8
  have HE0 := fun (w : World) => datumError_c X Y Z A B C S w
  have HR0 := fun (w : World) => far_c x y z w
  rw [hd] at HV0 HE0
  simp only [show dK false = 3 from rfl, show dK true = 0 from rfl] at HV0 HE0
  generalize okV x y z = vv at *
  have HV := Lib.hid HV0
  have HE := Lib.hid HE0
  have HFar := Lib.hid HR0
  have H8 := Lib.hid h8
  clear HV0 HE0 HR0 h8 hd hk
  obtain ⟨n1, n2, n3, n4⟩ := datum_num
  have H0 : Hid (∀ w, World8 A0 w → Calls Tryd.prog 14 #[datV cFive 0 0 0 0 0 0, vecU cOne 0 0] w (fun e w' => ∃ b2 b3, e = .returned (.tuple #[vecU cSix b2 b3, .nilIface]) ∧ Ext w w')) := Lib.hid (fun w h8 => (dto_ok (A0 := A0) cFive 0 0 0 0 0 0 cOne 0 0 w h8 n1 n2).mono (fun _ _ ⟨a, b, c, he, ha, _, _, hx⟩ => ⟨b, c, by rw [he, of_can (ha.trans n3) n4], hx⟩))
  have q6 : FloatKind.f64.format.order cSix cSix = some .eq := by kernel_rfl
  clear n1 n2 n3 n4
  go_enter Tryd.func4, Tryd.ntmps4
  go_wp2_with (first
    | (go_at_call 14; go_must (refine (H0.out _ (H8.out.ext (by repeat (first | exact Ext.refl _ | refine Ext.alloc ?_ _)))).mono ?_; rintro e w1 ⟨b2, b3, rfl, hx⟩; obtain ⟨hb1, hb2, hw⟩ := ext2 hx; clear hx)))
  obtain ⟨wa, hwa⟩ : ∃ wa, wa = w1.alloc (.cells #[.float .f64 cSix, .float .f64 b2, .float .f64 b3] 29) := ⟨_, rfl⟩
  have e1 : Ext w1 wa := by rw [hwa]; exact (Ext.refl _).alloc _
  have hz : Blk wa w1.heap.size 29 #[.float .f64 cSix, .float .f64 b2, .float .f64 b3] := by rw [hwa]; exact Blk.new _ _ _
  rw [← hwa]
  obtain ⟨nx, hnx⟩ : ∃ nx, nx = w1.heap.size := ⟨_, rfl⟩
  have fr1 : Hid (∀ pp ∈ ([(w.heap.size, 43, #[Value.float .f64 X, Value.float .f64 Y, Value.float .f64 Z, Value.float .f64 A, Value.float .f64 B, Value.float .f64 C, Value.float .f64 S]), (w.heap.size + 1, 29, #[Value.float .f64 x, Value.float .f64 y, Value.float .f64 z])] : List (Nat × TypeId × Array Value)), pp.1 < nx) := Lib.hid (by rw [hnx]; exact Bks.fresh (w := w1) ⟨hb1, hb2, trivial⟩)
  have sx : w.heap.size ≤ nx := by rw [hnx]; exact hw.size
  rw [← hnx] at hz ⊢
  have hB : Bks wa [(w.heap.size, 43, #[Value.float .f64 X, Value.float .f64 Y, Value.float .f64 Z, Value.float .f64 A, Value.float .f64 B, Value.float .f64 C, Value.float .f64 S]), (w.heap.size + 1, 29, #[Value.float .f64 x, Value.float .f64 y, Value.float .f64 z])] := ⟨hb1.ext e1, hb2.ext e1, trivial⟩
  replace hw := hw.trans e1
  clear hb1 hb2 hwa e1 q6 hnx
  have kc := And.intro hB.1.cell hB.2.1.cell
  have kl := And.intro hB.1.lt hB.2.1.lt
  have cz := hz.cell
  have fz := hz.frozen
  go_cut [6] (fun s6 wx => ∃ (a1 a2 a3 : Nat) (e1 : Value), s6 = e1 ∧ ErrOf A0 (3 : Int) e1 ∧ can a1 = 0 ∧ can a2 = 0 ∧ can a3 = 0 ∧ Ext w wx ∧ Bks wx [(w.heap.size, 43, #[Value.float .f64 X, Value.float .f64 Y, Value.float .f64 Z, Value.float .f64 A, Value.float .f64 B, Value.float .f64 C, Value.float .f64 S]), (w.heap.size + 1, 29, #[Value.float .f64 x, Value.float .f64 y, Value.float .f64 z]), (nx, 29, #[Value.float .f64 a1, Value.float .f64 a2, Value.float .f64 a3])])
  case first =>
    clear cz fz
    go_region_held3 (fun w' => w'.cell? ⟨w.heap.size, 0, none⟩ = some (.float .f64 X) ∧ w'.cell? ⟨w.heap.size, 1, none⟩ = some (.float .f64 Y) ∧ w'.cell? ⟨w.heap.size, 2, none⟩ = some (.float .f64 Z) ∧ w'.cell? ⟨w.heap.size, 3, none⟩ = some (.float .f64 A) ∧ w'.cell? ⟨w.heap.size, 4, none⟩ = some (.float .f64 B) ∧ w'.cell? ⟨w.heap.size, 5, none⟩ = some (.float .f64 C) ∧ w'.cell? ⟨w.heap.size, 6, none⟩ = some (.float .f64 S) ∧ w'.cell? ⟨w.heap.size + 1, 0, none⟩ = some (.float .f64 x) ∧ w'.cell? ⟨w.heap.size + 1, 1, none⟩ = some (.float .f64 y) ∧ w'.cell? ⟨w.heap.size + 1, 2, none⟩ = some (.float .f64 z))
      (first | (refine cells2 (Bks.ext hB3 ?_); (repeat (first | exact Ext.refl _ | refine Ext.drew ?_ | refine Ext.alloc ?_ _)); done) | (refine cells2 (Bks.ext hB2 ?_); (repeat (first | exact Ext.refl _ | refine Ext.drew ?_ | refine Ext.alloc ?_ _)); done) | (refine cells2 (Bks.ext hB ?_); (repeat (first | exact Ext.refl _ | refine Ext.drew ?_ | refine Ext.alloc ?_ _)); done) | (exact cells2 (fin_three (hw.trans (hE.trans hF)) hB3 hz fr1.out sx).2.1) | (refine cells2 (Bks.ext (fin_three (hw.trans (hE.trans hF)) hB3 hz fr1.out sx).2.1 ?_); exact Ext.drew (Ext.refl _)))
      (first
      | (go_at_call 15; refine (datum_c X Y Z A B C S _).mono ?_; rintro e w2 ⟨rfl, hx⟩; have hE : Ext wa w2 := (by first | exact hx.of_drew | exact bareN hx rfl rfl rfl rfl); clear kc kl; have hB2 := hB.ext hE; replace hz := hz.ext hE; have kc := And.intro hB2.1.cell hB2.2.1.cell; have kl := And.intro hB2.1.lt hB2.2.1.lt)
      | (go_at_call 14; (refine (HT.out w2 (H8.out.ext (hw.trans hE))).mono ?_; rintro e w3 ⟨c1, c2, c3, v2, rfl, hv2, hc1, hc2, hc3, hx'⟩; have hF : Ext w2 w3 := bareN hx' rfl rfl rfl rfl; replace hz := hz.ext hF; have hB3 := hB2.ext hF; clear kc; have cZ := hz.cell; have fZ := hz.frozen)))
    all_goals
      have hL3 : Ext w w3 := (hw.trans hE).trans hF
      (try go_wp2_with fail)
      go_meet
      exact ⟨c1, c2, c3, _, rfl, hv2, hc1, hc2, hc3, (fin_three hL3 hB3 hz fr1.out sx).1, (fin_three hL3 hB3 hz fr1.out sx).2.1.1, (fin_three hL3 hB3 hz fr1.out sx).2.1.2.1, (fin_three hL3 hB3 hz fr1.out sx).2.2, trivial⟩
  case rest =>
    clear hB hw kc kl cz fz hz fr1 sx
    obtain ⟨a1, a2, a3, e1, rfl, hv1, ha1, ha2, ha3, hw, hB⟩ := hcut
    have HA := Lib.hid (And.intro ha1 (And.intro ha2 ha3))
    clear ha1 ha2 ha3
    have kc := And.intro hB.1.cell (And.intro hB.2.1.cell hB.2.2.1.cell)
    have kl := And.intro hB.1.lt (And.intro hB.2.1.lt hB.2.2.1.lt)
    go_wp2_with fail
    go_cut [7, 8] (fun s1 s2 wx => ∃ (ny b1 b2 b3 : Nat) (e2 : Value), s1 = .pointer (some ⟨ny, 0, none⟩) ∧ s2 = e2 ∧ ErrOf A0 (3 : Int) e2 ∧ can b1 = 0 ∧ can b2 = 0 ∧ can b3 = 0 ∧ Ext w wx ∧ Bks wx [(w.heap.size, 43, #[Value.float .f64 X, Value.float .f64 Y, Value.float .f64 Z, Value.float .f64 A, Value.float .f64 B, Value.float .f64 C, Value.float .f64 S]), (w.heap.size + 1, 29, #[Value.float .f64 x, Value.float .f64 y, Value.float .f64 z]), (nx, 29, #[Value.float .f64 a1, Value.float .f64 a2, Value.float .f64 a3])] ∧ Blk wx ny 29 #[.float .f64 b1, .float .f64 b2, .float .f64 b3])
    case first =>
      have fr1 := Lib.hid hB.fresh
      go_region_held3 (fun w' => w'.cell? ⟨w.heap.size, 0, none⟩ = some (.float .f64 X) ∧ w'.cell? ⟨w.heap.size, 1, none⟩ = some (.float .f64 Y) ∧ w'.cell? ⟨w.heap.size, 2, none⟩ = some (.float .f64 Z) ∧ w'.cell? ⟨w.heap.size, 3, none⟩ = some (.float .f64 A) ∧ w'.cell? ⟨w.heap.size, 4, none⟩ = some (.float .f64 B) ∧ w'.cell? ⟨w.heap.size, 5, none⟩ = some (.float .f64 C) ∧ w'.cell? ⟨w.heap.size, 6, none⟩ = some (.float .f64 S) ∧ w'.cell? ⟨w.heap.size + 1, 0, none⟩ = some (.float .f64 x) ∧ w'.cell? ⟨w.heap.size + 1, 1, none⟩ = some (.float .f64 y) ∧ w'.cell? ⟨w.heap.size + 1, 2, none⟩ = some (.float .f64 z) ∧ w'.cell? ⟨nx, 0, none⟩ = some (.float .f64 a1) ∧ w'.cell? ⟨nx, 1, none⟩ = some (.float .f64 a2) ∧ w'.cell? ⟨nx, 2, none⟩ = some (.float .f64 a3))
        (first | (refine cells3 (Bks.ext hB3 ?_); (repeat (first | exact Ext.refl _ | refine Ext.drew ?_ | refine Ext.alloc ?_ _)); done) | (refine cells3 (Bks.ext hB2 ?_); (repeat (first | exact Ext.refl _ | refine Ext.drew ?_ | refine Ext.alloc ?_ _)); done) | (refine cells3 (Bks.ext hB ?_); (repeat (first | exact Ext.refl _ | refine Ext.drew ?_ | refine Ext.alloc ?_ _)); done) | (exact cells3 (fin_three (hw.trans (hE.trans hF)) hB3 hz fr2.out (hw.trans hE).size).2.1) | (refine cells3 (Bks.ext (fin_three (hw.trans (hE.trans hF)) hB3 hz fr2.out (hw.trans hE).size).2.1 ?_); exact Ext.drew (Ext.refl _)) | (exact cells3 (fin_three (hw.trans (hE.trans hF)) hB3 hz fr1.out hw.size).2.1) | (refine cells3 (Bks.ext (fin_three (hw.trans (hE.trans hF)) hB3 hz fr1.out hw.size).2.1 ?_); exact Ext.drew (Ext.refl _)))
        (first
        | (go_at_call 15; refine (datum_c X Y Z A B C S _).mono ?_; rintro e w2 ⟨rfl, hx⟩; have hE : Ext wc w2 := (by first | exact (ext1 hx.of_drew).2 | exact hx.of_drew | exact bareN hx rfl rfl rfl rfl); (first | (have hz := (ext1 hx.of_drew).1) | skip); clear kc kl; have hB2 := hB.ext hE; have fr2 := Lib.hid hB2.fresh; have kc := And.intro hB2.1.cell (And.intro hB2.2.1.cell hB2.2.2.1.cell); have kl := And.intro hB2.1.lt (And.intro hB2.2.1.lt hB2.2.2.1.lt))
        | (go_at_call 16; ((first | (refine (HF.out w2 (H8.out.ext (hw.trans hE))).mono ?_) | (refine (HF.out _ (H8.out.ext ((hw.trans hE).alloc _))).mono ?_)); rintro e w3 ⟨c1, c2, c3, v2, rfl, hv2, hc1, hc2, hc3, hx'⟩; have hF : Ext w2 w3 := (by first | exact bareN hx' rfl rfl rfl rfl | exact bareN (ext1 hx').2 rfl rfl rfl rfl); (first | (have hz := (ext1 hx').1) | (replace hz := hz.ext hF) | skip); have hB3 := hB2.ext hF; clear kc; (first | (have cZ := hz.cell; have fZ := hz.frozen) | skip))))
      all_goals
        have hL3 : Ext w w3 := (hw.trans hE).trans hF
        have s1 : w.heap.size ≤ wc.heap.size := hw.size
        have s2 : w.heap.size ≤ w2.heap.size := (hw.trans hE).size
        (try go_wp2_with fail)
        go_meet
        first
          | exact ⟨w3.heap.size, c1, c2, c3, _, rfl, rfl, hv2, hc1, hc2, hc3, fin_new hL3 hB3⟩
          | exact ⟨w2.heap.size, c1, c2, c3, _, rfl, rfl, hv2, hc1, hc2, hc3, fin_three hL3 hB3 hz fr2.out s2⟩
          | exact ⟨wc.heap.size, c1, c2, c3, _, rfl, rfl, hv2, hc1, hc2, hc3, fin_three hL3 hB3 hz fr1.out s1⟩
    case rest =>
      clear hB hw kc kl
      obtain ⟨ny, b1, b2, b3, e2, rfl, rfl, hv2, hb1', hb2', hb3', hw, hB, hP⟩ := hcut
      have HB := Lib.hid (And.intro hb1' (And.intro hb2' hb3'))
      clear hb1' hb2' hb3'
      have kc := And.intro hB.1.cell (And.intro hB.2.1.cell (And.intro hB.2.2.1.cell hP.cell))
      have SA : Hid (can a1 = can 0 ∧ can a2 = can 0 ∧ can a3 = can 0) := Lib.hid ⟨by rw [HA.out.1, can0], by rw [HA.out.2.1, can0], by rw [HA.out.2.2, can0]⟩
      have SB : Hid (can b1 = can 0 ∧ can b2 = can 0 ∧ can b3 = can 0) := Lib.hid ⟨by rw [HB.out.1, can0], by rw [HB.out.2.1, can0], by rw [HB.out.2.2, can0]⟩
      go_wp2_with (first
        | (go_at_call 17; go_must (refine (HE.out _).mono ?_; rintro e wb ⟨rfl, hx⟩; clear kc; replace hB := hB.ext (bareN hx rfl rfl rfl rfl); replace hP := hP.ext (bareN hx rfl rfl rfl rfl); replace hw := hw.trans (bareN hx rfl rfl rfl rfl); clear hx; have kc := And.intro hB.1.cell (And.intro hB.2.1.cell (And.intro hB.2.2.1.cell hP.cell))))
        | (go_at_call 15; go_must (refine (datum_c X Y Z A B C S _).mono ?_; rintro e wb ⟨rfl, hx⟩; clear kc; replace hB := hB.ext (bareN hx rfl rfl rfl rfl); replace hP := hP.ext (bareN hx rfl rfl rfl rfl); replace hw := hw.trans (bareN hx rfl rfl rfl rfl); clear hx; have kc := And.intro hB.1.cell (And.intro hB.2.1.cell (And.intro hB.2.2.1.cell hP.cell))))
        | (go_at_call 19; go_must (refine (HV.out _ (H8.out.ext hw)).mono ?_; rintro e wb ⟨v3, rfl, hv3, hx⟩; clear kc; replace hB := hB.ext (bareN hx rfl rfl rfl rfl); replace hP := hP.ext (bareN hx rfl rfl rfl rfl); replace hw := hw.trans (bareN hx rfl rfl rfl rfl); clear hx; have kc := And.intro hB.1.cell (And.intro hB.2.1.cell (And.intro hB.2.2.1.cell hP.cell))))
        | (go_at_call 20; go_must (refine (HFar.out _).mono ?_; rintro e wb ⟨rfl, hx⟩; clear kc; replace hB := hB.ext (bareN hx rfl rfl rfl rfl); replace hP := hP.ext (bareN hx rfl rfl rfl rfl); replace hw := hw.trans (bareN hx rfl rfl rfl rfl); clear hx; have kc := And.intro hB.1.cell (And.intro hB.2.1.cell (And.intro hB.2.2.1.cell hP.cell))))
        | (go_at_call 18; (first | (with_reducible refine (coded_c (H8.out.ext hw) hv3 3).mono ?_) | (with_reducible refine (coded_c (H8.out.ext hw) hv1 3).mono ?_) | (with_reducible refine (coded_c (H8.out.ext hw) hv2 3).mono ?_)); go_must (rintro e wb ⟨rfl, hx⟩; simp only [decide_true]; clear kc; replace hB := hB.ext (bareN hx rfl rfl rfl rfl); replace hP := hP.ext (bareN hx rfl rfl rfl rfl); replace hw := hw.trans (bareN hx rfl rfl rfl rfl); clear hx; have kc := And.intro hB.1.cell (And.intro hB.2.1.cell (And.intro hB.2.2.1.cell hP.cell))))
        | (go_at_call 21; (first | (with_reducible refine (sameVec_c a1 a2 a3 0 0 0 _ SA.out.1 SA.out.2.1 SA.out.2.2).mono ?_) | (with_reducible refine (sameVec_c b1 b2 b3 0 0 0 _ SB.out.1 SB.out.2.1 SB.out.2.2).mono ?_)); go_must (rintro e wb ⟨rfl, hx⟩; clear kc; replace hB := hB.ext (bareN hx rfl rfl rfl rfl); replace hP := hP.ext (bareN hx rfl rfl rfl rfl); replace hw := hw.trans (bareN hx rfl rfl rfl rfl); clear hx; have kc := And.intro hB.1.cell (And.intro hB.2.1.cell (And.intro hB.2.2.1.cell hP.cell)))))
      go_ret
      exact ⟨rfl, hw⟩

set_option maxHeartbeats 16000000 in
theorem datums_bad4 {A0 : Nat → Addr} (X Y Z A B C S x y z : Nat) (w : World) (h8 : World8 A0 w) (hd : okD X Y Z A B C S = true) (hv : okV x y z = false) (hk : dvK (okD X Y Z A B C S) (okV x y z) = 4) :
    Calls Tryd.prog 4 #[datV X Y Z A B C S, vecU x y z] w (ExR (.bool true) w) := by
  have HT := Lib.hid (fun (w : World) (h8 : World8 A0 w) => bad_at (A0 := A0) (K := 4) .range (dto_bad4 X Y Z A B C S x y z hk w h8))
  have HF := Lib.hid (fun (w : World) (h8 : World8 A0 w) => bad_at (A0 := A0) (K := 4) .range (dfrom_bad4 X Y Z A B C S x y z hk w h8))
  have HV0 := fun (w : World) (h8 : World8 A0 w) => dvalid_c (A0 := A0) X Y Z A B C S w h8
  have HE0 := fun (w : World) => datumError_c X Y Z A B C S w
  have HR0 := fun (w : World) => far_c x y z w
  rw [hd] at HV0 HE0
  simp only [show dK false = 3 from rfl, show dK true = 0 from rfl] at HV0 HE0
  rw [hv] at HR0
  have HV := Lib.hid HV0
  have HE := Lib.hid HE0
  have HFar := Lib.hid HR0
  have H8 := Lib.hid h8
  clear HV0 HE0 HR0 h8 hd hk hv
  obtain ⟨n1, n2, n3, n4⟩ := datum_num
  have H0 : Hid (∀ w, World8 A0 w → Calls Tryd.prog 14 #[datV cFive 0 0 0 0 0 0, vecU cOne 0 0] w (fun e w' => ∃ b2 b3, e = .returned (.tuple #[vecU cSix b2 b3, .nilIface]) ∧ Ext w w')) := Lib.hid (fun w h8 => (dto_ok (A0 := A0) cFive 0 0 0 0 0 0 cOne 0 0 w h8 n1 n2).mono (fun _ _ ⟨a, b, c, he, ha, _, _, hx⟩ => ⟨b, c, by rw [he, of_can (ha.trans n3) n4], hx⟩))
  have q6 : FloatKind.f64.format.order cSix cSix = some .eq := by kernel_rfl
  clear n1 n2 n3 n4
  go_enter Tryd.func4, Tryd.ntmps4
  go_wp2_with (first
    | (go_at_call 14; go_must (refine (H0.out _ (H8.out.ext (by repeat (first | exact Ext.refl _ | refine Ext.alloc ?_ _)))).mono ?_; rintro e w1 ⟨b2, b3, rfl, hx⟩; obtain ⟨hb1, hb2, hw⟩ := ext2 hx; clear hx)))
  obtain ⟨wa, hwa⟩ : ∃ wa, wa = w1.alloc (.cells #[.float .f64 cSix, .float .f64 b2, .float .f64 b3] 29) := ⟨_, rfl⟩
  have e1 : Ext w1 wa := by rw [hwa]; exact (Ext.refl _).alloc _
  have hz : Blk wa w1.heap.size 29 #[.float .f64 cSix, .float .f64 b2, .float .f64 b3] := by rw [hwa]; exact Blk.new _ _ _
  rw [← hwa]
  obtain ⟨nx, hnx⟩ : ∃ nx, nx = w1.heap.size := ⟨_, rfl⟩
  have fr1 : Hid (∀ pp ∈ ([(w.heap.size, 43, #[Value.float .f64 X, Value.float .f64 Y, Value.float .f64 Z, Value.float .f64 A, Value.float .f64 B, Value.float .f64 C, Value.float .f64 S]), (w.heap.size + 1, 29, #[Value.float .f64 x, Value.float .f64 y, Value.float .f64 z])] : List (Nat × TypeId × Array Value)), pp.1 < nx) := Lib.hid (by rw [hnx]; exact Bks.fresh (w := w1) ⟨hb1, hb2, trivial⟩)
  have sx : w.heap.size ≤ nx := by rw [hnx]; exact hw.size
  rw [← hnx] at hz ⊢
  have hB : Bks wa [(w.heap.size, 43, #[Value.float .f64 X, Value.float .f64 Y, Value.float .f64 Z, Value.float .f64 A, Value.float .f64 B, Value.float .f64 C, Value.float .f64 S]), (w.heap.size + 1, 29, #[Value.float .f64 x, Value.float .f64 y, Value.float .f64 z])] := ⟨hb1.ext e1, hb2.ext e1, trivial⟩
  replace hw := hw.trans e1
  clear hb1 hb2 hwa e1 q6 hnx
  have kc := And.intro hB.1.cell hB.2.1.cell
  have kl := And.intro hB.1.lt hB.2.1.lt
  have cz := hz.cell
  have fz := hz.frozen
  go_cut [6] (fun s6 wx => ∃ (a1 a2 a3 : Nat) (e1 : Value), s6 = e1 ∧ ErrOf A0 (4 : Int) e1 ∧ can a1 = 0 ∧ can a2 = 0 ∧ can a3 = 0 ∧ Ext w wx ∧ Bks wx [(w.heap.size, 43, #[Value.float .f64 X, Value.float .f64 Y, Value.float .f64 Z, Value.float .f64 A, Value.float .f64 B, Value.float .f64 C, Value.float .f64 S]), (w.heap.size + 1, 29, #[Value.float .f64 x, Value.float .f64 y, Value.float .f64 z]), (nx, 29, #[Value.float .f64 a1, Value.float .f64 a2, Value.float .f64 a3])])
  case first =>
    clear cz fz
    go_region_held3 (fun w' => w'.cell? ⟨w.heap.size, 0, none⟩ = some (.float .f64 X) ∧ w'.cell? ⟨w.heap.size, 1, none⟩ = some (.float .f64 Y) ∧ w'.cell? ⟨w.heap.size, 2, none⟩ = some (.float .f64 Z) ∧ w'.cell? ⟨w.heap.size, 3, none⟩ = some (.float .f64 A) ∧ w'.cell? ⟨w.heap.size, 4, none⟩ = some (.float .f64 B) ∧ w'.cell? ⟨w.heap.size, 5, none⟩ = some (.float .f64 C) ∧ w'.cell? ⟨w.heap.size, 6, none⟩ = some (.float .f64 S) ∧ w'.cell? ⟨w.heap.size + 1, 0, none⟩ = some (.float .f64 x) ∧ w'.cell? ⟨w.heap.size + 1, 1, none⟩ = some (.float .f64 y) ∧ w'.cell? ⟨w.heap.size + 1, 2, none⟩ = some (.float .f64 z))
      (first | (refine cells2 (Bks.ext hB3 ?_); (repeat (first | exact Ext.refl _ | refine Ext.drew ?_ | refine Ext.alloc ?_ _)); done) | (refine cells2 (Bks.ext hB2 ?_); (repeat (first | exact Ext.refl _ | refine Ext.drew ?_ | refine Ext.alloc ?_ _)); done) | (refine cells2 (Bks.ext hB ?_); (repeat (first | exact Ext.refl _ | refine Ext.drew ?_ | refine Ext.alloc ?_ _)); done) | (exact cells2 (fin_three (hw.trans (hE.trans hF)) hB3 hz fr1.out sx).2.1) | (refine cells2 (Bks.ext (fin_three (hw.trans (hE.trans hF)) hB3 hz fr1.out sx).2.1 ?_); exact Ext.drew (Ext.refl _)))
      (first
      | (go_at_call 15; refine (datum_c X Y Z A B C S _).mono ?_; rintro e w2 ⟨rfl, hx⟩; have hE : Ext wa w2 := (by first | exact hx.of_drew | exact bareN hx rfl rfl rfl rfl); clear kc kl; have hB2 := hB.ext hE; replace hz := hz.ext hE; have kc := And.intro hB2.1.cell hB2.2.1.cell; have kl := And.intro hB2.1.lt hB2.2.1.lt)
      | (go_at_call 14; (refine (HT.out w2 (H8.out.ext (hw.trans hE))).mono ?_; rintro e w3 ⟨c1, c2, c3, v2, rfl, hv2, hc1, hc2, hc3, hx'⟩; have hF : Ext w2 w3 := bareN hx' rfl rfl rfl rfl; replace hz := hz.ext hF; have hB3 := hB2.ext hF; clear kc; have cZ := hz.cell; have fZ := hz.frozen)))
    all_goals
      have hL3 : Ext w w3 := (hw.trans hE).trans hF
      (try go_wp2_with fail)
      go_meet
      exact ⟨c1, c2, c3, _, rfl, hv2, hc1, hc2, hc3, (fin_three hL3 hB3 hz fr1.out sx).1, (fin_three hL3 hB3 hz fr1.out sx).2.1.1, (fin_three hL3 hB3 hz fr1.out sx).2.1.2.1, (fin_three hL3 hB3 hz fr1.out sx).2.2, trivial⟩
  case rest =>
    clear hB hw kc kl cz fz hz fr1 sx
    obtain ⟨a1, a2, a3, e1, rfl, hv1, ha1, ha2, ha3, hw, hB⟩ := hcut
    have HA := Lib.hid (And.intro ha1 (And.intro ha2 ha3))
    clear ha1 ha2 ha3
    have kc := And.intro hB.1.cell (And.intro hB.2.1.cell hB.2.2.1.cell)
    have kl := And.intro hB.1.lt (And.intro hB.2.1.lt hB.2.2.1.lt)
    go_wp2_with fail
    go_cut [7, 8] (fun s1 s2 wx => ∃ (ny b1 b2 b3 : Nat) (e2 : Value), s1 = .pointer (some ⟨ny, 0, none⟩) ∧ s2 = e2 ∧ ErrOf A0 (4 : Int) e2 ∧ can b1 = 0 ∧ can b2 = 0 ∧ can b3 = 0 ∧ Ext w wx ∧ Bks wx [(w.heap.size, 43, #[Value.float .f64 X, Value.float .f64 Y, Value.float .f64 Z, Value.float .f64 A, Value.float .f64 B, Value.float .f64 C, Value.float .f64 S]), (w.heap.size + 1, 29, #[Value.float .f64 x, Value.float .f64 y, Value.float .f64 z]), (nx, 29, #[Value.float .f64 a1, Value.float .f64 a2, Value.float .f64 a3])] ∧ Blk wx ny 29 #[.float .f64 b1, .float .f64 b2, .float .f64 b3])
    case first =>
      have fr1 := Lib.hid hB.fresh
      go_region_held3 (fun w' => w'.cell? ⟨w.heap.size, 0, none⟩ = some (.float .f64 X) ∧ w'.cell? ⟨w.heap.size, 1, none⟩ = some (.float .f64 Y) ∧ w'.cell? ⟨w.heap.size, 2, none⟩ = some (.float .f64 Z) ∧ w'.cell? ⟨w.heap.size, 3, none⟩ = some (.float .f64 A) ∧ w'.cell? ⟨w.heap.size, 4, none⟩ = some (.float .f64 B) ∧ w'.cell? ⟨w.heap.size, 5, none⟩ = some (.float .f64 C) ∧ w'.cell? ⟨w.heap.size, 6, none⟩ = some (.float .f64 S) ∧ w'.cell? ⟨w.heap.size + 1, 0, none⟩ = some (.float .f64 x) ∧ w'.cell? ⟨w.heap.size + 1, 1, none⟩ = some (.float .f64 y) ∧ w'.cell? ⟨w.heap.size + 1, 2, none⟩ = some (.float .f64 z) ∧ w'.cell? ⟨nx, 0, none⟩ = some (.float .f64 a1) ∧ w'.cell? ⟨nx, 1, none⟩ = some (.float .f64 a2) ∧ w'.cell? ⟨nx, 2, none⟩ = some (.float .f64 a3))
        (first | (refine cells3 (Bks.ext hB3 ?_); (repeat (first | exact Ext.refl _ | refine Ext.drew ?_ | refine Ext.alloc ?_ _)); done) | (refine cells3 (Bks.ext hB2 ?_); (repeat (first | exact Ext.refl _ | refine Ext.drew ?_ | refine Ext.alloc ?_ _)); done) | (refine cells3 (Bks.ext hB ?_); (repeat (first | exact Ext.refl _ | refine Ext.drew ?_ | refine Ext.alloc ?_ _)); done) | (exact cells3 (fin_three (hw.trans (hE.trans hF)) hB3 hz fr2.out (hw.trans hE).size).2.1) | (refine cells3 (Bks.ext (fin_three (hw.trans (hE.trans hF)) hB3 hz fr2.out (hw.trans hE).size).2.1 ?_); exact Ext.drew (Ext.refl _)) | (exact cells3 (fin_three (hw.trans (hE.trans hF)) hB3 hz fr1.out hw.size).2.1) | (refine cells3 (Bks.ext (fin_three (hw.trans (hE.trans hF)) hB3 hz fr1.out hw.size).2.1 ?_); exact Ext.drew (Ext.refl _)))
        (first
        | (go_at_call 15; refine (datum_c X Y Z A B C S _).mono ?_; rintro e w2 ⟨rfl, hx⟩; have hE : Ext wc w2 := (by first | exact (ext1 hx.of_drew).2 | exact hx.of_drew | exact bareN hx rfl rfl rfl rfl); (first | (have hz := (ext1 hx.of_drew).1) | skip); clear kc kl; have hB2 := hB.ext hE; have fr2 := Lib.hid hB2.fresh; have kc := And.intro hB2.1.cell (And.intro hB2.2.1.cell hB2.2.2.1.cell); have kl := And.intro hB2.1.lt (And.intro hB2.2.1.lt hB2.2.2.1.lt))
        | (go_at_call 16; ((first | (refine (HF.out w2 (H8.out.ext (hw.trans hE))).mono ?_) | (refine (HF.out _ (H8.out.ext ((hw.trans hE).alloc _))).mono ?_)); rintro e w3 ⟨c1, c2, c3, v2, rfl, hv2, hc1, hc2, hc3, hx'⟩; have hF : Ext w2 w3 := (by first | exact bareN hx' rfl rfl rfl rfl | exact bareN (ext1 hx').2 rfl rfl rfl rfl); (first | (have hz := (ext1 hx').1) | (replace hz := hz.ext hF) | skip); have hB3 := hB2.ext hF; clear kc; (first | (have cZ := hz.cell; have fZ := hz.frozen) | skip))))
      all_goals
        have hL3 : Ext w w3 := (hw.trans hE).trans hF
        have s1 : w.heap.size ≤ wc.heap.size := hw.size
        have s2 : w.heap.size ≤ w2.heap.size := (hw.trans hE).size
        (try go_wp2_with fail)
        go_meet
        first
          | exact ⟨w3.heap.size, c1, c2, c3, _, rfl, rfl, hv2, hc1, hc2, hc3, fin_new hL3 hB3⟩
          | exact ⟨w2.heap.size, c1, c2, c3, _, rfl, rfl, hv2, hc1, hc2, hc3, fin_three hL3 hB3 hz fr2.out s2⟩
          | exact ⟨wc.heap.size, c1, c2, c3, _, rfl, rfl, hv2, hc1, hc2, hc3, fin_three hL3 hB3 hz fr1.out s1⟩
    case rest =>
      clear hB hw kc kl
      obtain ⟨ny, b1, b2, b3, e2, rfl, rfl, hv2, hb1', hb2', hb3', hw, hB, hP⟩ := hcut
      have HB := Lib.hid (And.intro hb1' (And.intro hb2' hb3'))
      clear hb1' hb2' hb3'
      have kc := And.intro hB.1.cell (And.intro hB.2.1.cell (And.intro hB.2.2.1.cell hP.cell))
      have SA : Hid (can a1 = can 0 ∧ can a2 = can 0 ∧ can a3 = can 0) := Lib.hid ⟨by rw [HA.out.1, can0], by rw [HA.out.2.1, can0], by rw [HA.out.2.2, can0]⟩
      have SB : Hid (can b1 = can 0 ∧ can b2 = can 0 ∧ can b3 = can 0) := Lib.hid ⟨by rw [HB.out.1, can0], by rw [HB.out.2.1, can0], by rw [HB.out.2.2, can0]⟩
      go_wp2_with (first
        | (go_at_call 17; go_must (refine (HE.out _).mono ?_; rintro e wb ⟨rfl, hx⟩; clear kc; replace hB := hB.ext (bareN hx rfl rfl rfl rfl); replace hP := hP.ext (bareN hx rfl rfl rfl rfl); replace hw := hw.trans (bareN hx rfl rfl rfl rfl); clear hx; have kc := And.intro hB.1.cell (And.intro hB.2.1.cell (And.intro hB.2.2.1.cell hP.cell))))
        | (go_at_call 15; go_must (refine (datum_c X Y Z A B C S _).mono ?_; rintro e wb ⟨rfl, hx⟩; clear kc; replace hB := hB.ext (bareN hx rfl rfl rfl rfl); replace hP := hP.ext (bareN hx rfl rfl rfl rfl); replace hw := hw.trans (bareN hx rfl rfl rfl rfl); clear hx; have kc := And.intro hB.1.cell (And.intro hB.2.1.cell (And.intro hB.2.2.1.cell hP.cell))))
        | (go_at_call 19; go_must (refine (HV.out _ (H8.out.ext hw)).mono ?_; rintro e wb ⟨v3, rfl, hv3, hx⟩; clear kc; replace hB := hB.ext (bareN hx rfl rfl rfl rfl); replace hP := hP.ext (bareN hx rfl rfl rfl rfl); replace hw := hw.trans (bareN hx rfl rfl rfl rfl); clear hx; have kc := And.intro hB.1.cell (And.intro hB.2.1.cell (And.intro hB.2.2.1.cell hP.cell))))
        | (go_at_call 20; go_must (refine (HFar.out _).mono ?_; rintro e wb ⟨rfl, hx⟩; clear kc; replace hB := hB.ext (bareN hx rfl rfl rfl rfl); replace hP := hP.ext (bareN hx rfl rfl rfl rfl); replace hw := hw.trans (bareN hx rfl rfl rfl rfl); clear hx; have kc := And.intro hB.1.cell (And.intro hB.2.1.cell (And.intro hB.2.2.1.cell hP.cell))))
        | (go_at_call 18; (first | (with_reducible refine (coded_c (H8.out.ext hw) hv3 0).mono ?_) | (with_reducible refine (coded_c (H8.out.ext hw) hv1 4).mono ?_) | (with_reducible refine (coded_c (H8.out.ext hw) hv2 4).mono ?_)); go_must (rintro e wb ⟨rfl, hx⟩; simp only [decide_true]; clear kc; replace hB := hB.ext (bareN hx rfl rfl rfl rfl); replace hP := hP.ext (bareN hx rfl rfl rfl rfl); replace hw := hw.trans (bareN hx rfl rfl rfl rfl); clear hx; have kc := And.intro hB.1.cell (And.intro hB.2.1.cell (And.intro hB.2.2.1.cell hP.cell))))
        | (go_at_call 21; (first | (with_reducible refine (sameVec_c a1 a2 a3 0 0 0 _ SA.out.1 SA.out.2.1 SA.out.2.2).mono ?_) | (with_reducible refine (sameVec_c b1 b2 b3 0 0 0 _ SB.out.1 SB.out.2.1 SB.out.2.2).mono ?_)); go_must (rintro e wb ⟨rfl, hx⟩; clear kc; replace hB := hB.ext (bareN hx rfl rfl rfl rfl); replace hP := hP.ext (bareN hx rfl rfl rfl rfl); replace hw := hw.trans (bareN hx rfl rfl rfl rfl); clear hx; have kc := And.intro hB.1.cell (And.intro hB.2.1.cell (And.intro hB.2.2.1.cell hP.cell)))))
      go_ret
      exact ⟨rfl, hw⟩
end Go.Proofs.YtmmifmlkhmdgaaaDoor
