/- Walks: of which place a reference that is one is: the reference's PlaceAt.. -/
import Derived.Test.YtcppgbhjbmfldaaGreatDoorCY
namespace Go.Proofs.YtcppgbhjbmfldaaGreatDoor
open Go.RowKit Go.Fp Go.Rel
set_option maxRecDepth 20000

theorem cells_rf {w' : World} {n : Nat} {a b c d : Value} {tR : TypeId} (h : Blk w' n tR #[a, b, c, d]) : w'.cell? ⟨n, 0, none⟩ = some a ∧ w'.cell? ⟨n, 2, none⟩ = some c := ⟨h.cell 0, h.cell 2⟩
set_option maxHeartbeats 8000000 in
theorem placeAt_in (z : Int) (s : Bool) (e n : Int) (h : OkRef z e n) (K lon lat : Int)
    (HF : ∀ w, Calls Tryz.prog 27 #[stripV gA gF ((6 * z - 183) * 1000000000) gS, flatU (pX e) (pY s n)] w (ExR (.tuple #[placeU lon lat, .int .i64 K]) w))
    (w : World) : Calls Tryz.prog 10 #[refV z s e n] w (ExR (.tuple #[placeU lon lat, .int .i64 K]) w) := by
  have HV := Lib.hid (fun w => refError_ok z s e n h w)
  have HS := Lib.hid (fun w => stripOf_c z h.1 h.2.1 w)
  have HT := Lib.hid HF
  obtain ⟨_, _, e1, e2, n1, n2⟩ := h
  have W1 : IntKind.i64.wrap (e - 500000) = e - 500000 := IntWalk.i64_in _ ⟨by omega, by omega⟩
  have W2 : IntKind.i64.wrap (n - 10000000) = n - 10000000 := IntWalk.i64_in _ ⟨by omega, by omega⟩
  clear HF
  unfold pX at HT
  cases s
  · have hY : pY false n = floatOfInt .f64 n := if_neg (by decide)
    rw [hY] at HT
    go_enter Tryz.func10, Tryz.ntmps10
    go_wp2_with (first
      | (go_at_call 24; go_must (refine (HV.out _).mono ?_; rintro e w1 ⟨rfl, hx⟩; obtain ⟨hb1, hb2, hw⟩ := ext2 hx; clear hx; have c1 := hb1.cell; have l1 := hb1.lt; have l2 := hb2.lt)))
    have hB : Bks w1 [(w.heap.size, 25, #[Value.int .i64 z, Value.bool false, Value.int .i64 e, Value.int .i64 n]), (w.heap.size + 1, 23, #[Value.int .i64 0, Value.int .i64 0])] := ⟨hb1, hb2, trivial⟩
    clear hb1 hb2 c1 hY
    have kc := hB.1.cell
    have kl := And.intro hB.1.lt hB.2.1.lt
    go_region_held3 (fun w' => w'.cell? ⟨w.heap.size, 0, none⟩ = some (.int .i64 z) ∧ w'.cell? ⟨w.heap.size, 2, none⟩ = some (.int .i64 e))
      (first | (refine cells_rf (Bks.ext hB3 ?_).1; (repeat (first | exact Ext.refl _ | refine Ext.drew ?_ | refine Ext.alloc ?_ _)); done) | (refine cells_rf (Bks.ext hB2 ?_).1; (repeat (first | exact Ext.refl _ | refine Ext.drew ?_ | refine Ext.alloc ?_ _)); done) | (refine cells_rf (Bks.ext hB ?_).1; (repeat (first | exact Ext.refl _ | refine Ext.drew ?_ | refine Ext.alloc ?_ _)); done) | (exact cells_rf (two_far hB3.1 (Nat.ne_of_lt (Nat.lt_succ_self _)))))
      (first
      | (go_at_call 19; refine (HS.out _).mono ?_; rintro e' w2 ⟨rfl, hx⟩; have hE : Ext w1 w2 := (by first | exact hx.of_drew | exact bareN hx rfl rfl rfl rfl); clear kc kl; have hB2 := hB.ext hE; have kc := hB2.1.cell; have kl := And.intro hB2.1.lt hB2.2.1.lt)
      | (go_at_call 27; refine (HT.out _).mono ?_; rintro e' w3 ⟨rfl, hx'⟩; have hF : Ext w2 w3 := (by first | exact bareN hx' rfl rfl rfl rfl); have hB3 := hB2.ext hF; clear kc; have cQ := hB3.2.1.cell; have fQ := hB3.2.1.frozen))
    all_goals
      (try go_wp2_with fail)
    all_goals
      obtain ⟨hx, _, k2⟩ := fin_two (u := .int .i64 lon) (v := .int .i64 lat) (l := []) ((hw.trans hE).trans hF) trivial hB3.2.1 (by simp) (by omega)
      have kq := k2.cell
      exact bodyPost_ret (v := .tuple #[placeU lon lat, .int .i64 K]) (by simp [results, Tryz.results10, go_sem, kq]) rfl ⟨rfl, by repeat (first | exact hx | refine Ext.drew ?_)⟩
  · have hY : pY true n = floatOfInt .f64 (n - 10000000) := if_pos rfl
    rw [hY] at HT
    go_enter Tryz.func10, Tryz.ntmps10
    go_wp2_with (first
      | (go_at_call 24; go_must (refine (HV.out _).mono ?_; rintro e w1 ⟨rfl, hx⟩; obtain ⟨hb1, hb2, hw⟩ := ext2 hx; clear hx; have c1 := hb1.cell; have l1 := hb1.lt; have l2 := hb2.lt)))
    have hB : Bks w1 [(w.heap.size, 25, #[Value.int .i64 z, Value.bool true, Value.int .i64 e, Value.int .i64 n]), (w.heap.size + 1, 23, #[Value.int .i64 0, Value.int .i64 0])] := ⟨hb1, hb2, trivial⟩
    clear hb1 hb2 c1 hY
    have kc := hB.1.cell
    have kl := And.intro hB.1.lt hB.2.1.lt
    go_region_held3 (fun w' => w'.cell? ⟨w.heap.size, 0, none⟩ = some (.int .i64 z) ∧ w'.cell? ⟨w.heap.size, 2, none⟩ = some (.int .i64 e))
      (first | (refine cells_rf (Bks.ext hB3 ?_).1; (repeat (first | exact Ext.refl _ | refine Ext.drew ?_ | refine Ext.alloc ?_ _)); done) | (refine cells_rf (Bks.ext hB2 ?_).1; (repeat (first | exact Ext.refl _ | refine Ext.drew ?_ | refine Ext.alloc ?_ _)); done) | (refine cells_rf (Bks.ext hB ?_).1; (repeat (first | exact Ext.refl _ | refine Ext.drew ?_ | refine Ext.alloc ?_ _)); done) | (exact cells_rf (two_far hB3.1 (Nat.ne_of_lt (Nat.lt_succ_self _)))))
      (first
      | (go_at_call 19; refine (HS.out _).mono ?_; rintro e' w2 ⟨rfl, hx⟩; have hE : Ext w1 w2 := (by first | exact hx.of_drew | exact bareN hx rfl rfl rfl rfl); clear kc kl; have hB2 := hB.ext hE; have kc := hB2.1.cell; have kl := And.intro hB2.1.lt hB2.2.1.lt)
      | (go_at_call 27; refine (HT.out _).mono ?_; rintro e' w3 ⟨rfl, hx'⟩; have hF : Ext w2 w3 := (by first | exact bareN hx' rfl rfl rfl rfl); have hB3 := hB2.ext hF; clear kc; have cQ := hB3.2.1.cell; have fQ := hB3.2.1.frozen))
    all_goals
      (try go_wp2_with fail)
    all_goals
      obtain ⟨hx, _, k2⟩ := fin_two (u := .int .i64 lon) (v := .int .i64 lat) (l := []) ((hw.trans hE).trans hF) trivial hB3.2.1 (by simp) (by omega)
      have kq := k2.cell
      exact bodyPost_ret (v := .tuple #[placeU lon lat, .int .i64 K]) (by simp [results, Tryz.results10, go_sem, kq]) rfl ⟨rfl, by repeat (first | exact hx | refine Ext.drew ?_)⟩
end Go.Proofs.YtcppgbhjbmfldaaGreatDoor
