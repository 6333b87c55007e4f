/- The walk of the statement WaveFrom. -/
import Derived.Test.YtmmifmlkhmdgaaaGreatDoorUG
import Derived.Test.YtmmifmlkhmdgaaaGreatDoorBK
namespace Go.Proofs.YtmmifmlkhmdgaaaGreatDoor
open Go.RowKit Go.Fp Go.Rel
set_option maxRecDepth 20000

/-- the cells of a strip and of a point -/
theorem cellsT {w' : World} {n a f sc : Nat} {mid : Int} {x y : Nat} {tG tP : TypeId} (h : Bks w' [(n, tG, #[Value.float .f64 a, Value.float .f64 f, Value.int .i64 mid, Value.float .f64 sc]), (n + 1, tP, #[Value.float .f64 x, Value.float .f64 y])]) :
    w'.cell? ⟨n, 0, none⟩ = some (.float .f64 a) ∧ w'.cell? ⟨n, 1, none⟩ = some (.float .f64 f) ∧ w'.cell? ⟨n, 2, none⟩ = some (.int .i64 mid) ∧ w'.cell? ⟨n, 3, none⟩ = some (.float .f64 sc) ∧ w'.cell? ⟨n + 1, 0, none⟩ = some (.float .f64 x) ∧ w'.cell? ⟨n + 1, 1, none⟩ = some (.float .f64 y) :=
  ⟨h.1.cell 0, h.1.cell 1, h.1.cell 2, h.1.cell 3, h.2.1.cell 0, h.2.1.cell 1⟩
set_option maxHeartbeats 8000000 in
theorem waveFrom_walk {A : Nat → Addr} (a f : Nat) (mid : Int) (sc x y : Nat) (w : World) (h8 : World8 A w) : Calls Tryz.prog 3 #[stripV a f mid sc, flatU x y] w (ExR (.bool true) w) := by
  obtain ⟨K, lon, lt, hT, hO⟩ := from_offS a f mid sc x y
  have HW := Lib.hid (fun w h8 => waved_c (A := A) w h8)
  have HT := Lib.hid (fun w h => hT A w h)
  have HO := Lib.hid hO
  have H8 := Lib.hid h8
  clear hT hO h8
  go_enter Tryz.func3, Tryz.ntmps3
  go_wp2_with (first
    | (go_at_call 5; go_must (refine (HW.out _ (H8.out.ext (by repeat (first | exact Ext.refl _ | refine Ext.alloc ?_ _)))).mono ?_; rintro e w1 ⟨rfl, hx⟩; obtain ⟨hb1, hb2, hw⟩ := ext2 hx; clear hx)))
  have hB : Bks w1 [(w.heap.size, 26, #[Value.float .f64 a, Value.float .f64 f, Value.int .i64 mid, Value.float .f64 sc]), (w.heap.size + 1, 28, #[Value.float .f64 x, Value.float .f64 y])] := ⟨hb1, hb2, trivial⟩
  clear hb1 hb2
  have kc := And.intro hB.1.cell hB.2.1.cell
  have kl := And.intro hB.1.lt hB.2.1.lt
  go_cut [6, 7] (fun s1 s2 wx => ∃ (nb : Nat) (v2 : Value), s1 = .pointer (some ⟨nb, 0, none⟩) ∧ s2 = v2 ∧ ErrOf A K v2 ∧ Ext w wx ∧ Bks wx [(w.heap.size, 26, #[Value.float .f64 a, Value.float .f64 f, Value.int .i64 mid, Value.float .f64 sc]), (w.heap.size + 1, 28, #[Value.float .f64 x, Value.float .f64 y])] ∧ Blk wx nb 31 #[.int .i64 lon, .int .i64 lt])
  case first =>
    have fr1 := Lib.hid hB.fresh
    go_region_held3 (fun w' => w'.cell? ⟨w.heap.size, 0, none⟩ = some (.float .f64 a) ∧ w'.cell? ⟨w.heap.size, 1, none⟩ = some (.float .f64 f) ∧ w'.cell? ⟨w.heap.size, 2, none⟩ = some (.int .i64 mid) ∧ w'.cell? ⟨w.heap.size, 3, none⟩ = some (.float .f64 sc) ∧ w'.cell? ⟨w.heap.size + 1, 0, none⟩ = some (.float .f64 x) ∧ w'.cell? ⟨w.heap.size + 1, 1, none⟩ = some (.float .f64 y))
      (first | (refine cellsT (Bks.ext hB3 ?_); (repeat (first | exact Ext.refl _ | refine Ext.drew ?_ | refine Ext.alloc ?_ _)); done) | (refine cellsT (Bks.ext hB2 ?_); (repeat (first | exact Ext.refl _ | refine Ext.drew ?_ | refine Ext.alloc ?_ _)); done) | (refine cellsT (Bks.ext hB ?_); (repeat (first | exact Ext.refl _ | refine Ext.drew ?_ | refine Ext.alloc ?_ _)); done) | (exact cellsT (fin_two (hw.trans (hE.trans hF)) hB3 hz fr2.out (hw.trans hE).size).2.1) | (refine cellsT (Bks.ext (fin_two (hw.trans (hE.trans hF)) hB3 hz fr2.out (hw.trans hE).size).2.1 ?_); exact Ext.drew (Ext.refl _)) | (exact cellsT (fin_two (hw.trans (hE.trans hF)) hB3 hz fr1.out hw.size).2.1) | (refine cellsT (Bks.ext (fin_two (hw.trans (hE.trans hF)) hB3 hz fr1.out hw.size).2.1 ?_); exact Ext.drew (Ext.refl _)))
      (first
      | (go_at_call 6; refine (strip_c a f mid sc _).mono ?_; rintro e w2 ⟨rfl, hx⟩; have hE : Ext w1 w2 := (by first | exact (ext1 hx.of_drew).2 | exact hx.of_drew | exact bareN hx rfl rfl rfl rfl); (first | (have hz := (ext1 hx.of_drew).1) | skip); clear kc kl; have hB2 := hB.ext hE; have fr2 := Lib.hid hB2.fresh; have kc := And.intro hB2.1.cell hB2.2.1.cell; have kl := And.intro hB2.1.lt hB2.2.1.lt)
      | (go_at_call 7; ((first | (refine (HT.out w2 (H8.out.ext (hw.trans hE))).mono ?_) | (refine (HT.out _ (H8.out.ext ((hw.trans hE).alloc _))).mono ?_)); rintro e w3 ⟨v2, rfl, hv2, hx'⟩; have hF : Ext w2 w3 := (by first | exact bareN hx' rfl rfl rfl rfl | exact bareN (ext1 hx').2 rfl rfl rfl rfl); (first | (have hz := (ext1 hx').1) | (replace hz := hz.ext hF) | skip); have hB3 := hB2.ext hF; clear kc; (first | (have cZ := hz.cell; have fZ := hz.frozen) | skip))))
    all_goals
      have hL3 : Ext w w3 := (hw.trans hE).trans hF
      have s1 : w.heap.size ≤ w1.heap.size := hw.size
      have s2 : w.heap.size ≤ w2.heap.size := (hw.trans hE).size
      (try go_wp2_with fail)
      go_meet
      first
        | exact ⟨w3.heap.size, _, rfl, rfl, hv2, fin_new hL3 hB3⟩
        | exact ⟨w2.heap.size, _, rfl, rfl, hv2, fin_two hL3 hB3 hz fr2.out s2⟩
        | exact ⟨w1.heap.size, _, rfl, rfl, hv2, fin_two hL3 hB3 hz fr1.out s1⟩
  case rest =>
    clear hB hw kc kl
    obtain ⟨nb, v2, rfl, rfl, hv2, hw, hB, hP⟩ := hcut
    have kc := And.intro hB.1.cell (And.intro hB.2.1.cell hP.cell)
    go_wp2_with (first
      | (go_at_call 8; go_must (refine (HO.out _).mono ?_; rintro e v3a ⟨rfl, hx⟩; clear kc; replace hB := hB.ext (bareN hx rfl rfl rfl rfl); replace hP := hP.ext (bareN hx rfl rfl rfl rfl); replace hw := hw.trans (bareN hx rfl rfl rfl rfl); clear hx; have kc := And.intro hB.1.cell (And.intro hB.2.1.cell hP.cell)))
      | (go_at_call 9; go_must (refine (coded_c (H8.out.ext (by repeat (first | exact hw | refine Ext.alloc ?_ _))) hv2 _).mono ?_; rintro e v3 ⟨rfl, hx⟩; rw [decide_eq_true (rfl : K = K)]; obtain ⟨hQ, hx'⟩ := ext1 hx; clear kc hx; replace hB := hB.ext hx'; replace hP := hP.ext hx'; replace hw := hw.trans hx'; clear hx'; have kc := And.intro hB.1.cell (And.intro hB.2.1.cell (And.intro hP.cell hQ.cell)))))
    go_ret
    exact ⟨rfl, hw⟩
end Go.Proofs.YtmmifmlkhmdgaaaGreatDoor
