/- Walks: of which place a reference that is one is: package grid's Place. -/
import Derived.Test.YtcppgbhjbmfldaaGreatDoorZY
namespace Go.Proofs.YtcppgbhjbmfldaaGreatDoor
open Go.RowKit Go.Fp Go.Rel
set_option maxRecDepth 20000

theorem cells_pf {w' : World} {n X Y : Nat} {tF : TypeId} (h : Blk w' n tF #[Value.float .f64 X, Value.float .f64 Y]) : w'.cell? ⟨n, 0, none⟩ = some (.float .f64 X) ∧ w'.cell? ⟨n, 1, none⟩ = some (.float .f64 Y) := ⟨h.cell 0, h.cell 1⟩
theorem two_far {w : World} {n k : Nat} {t : TypeId} {cs : Array Value} {u v : Value} (h : Blk w k t cs) (hne : k ≠ n) : Blk ((w.setCell ⟨n, 0, none⟩ u).setCell ⟨n, 1, none⟩ v) k t cs := by
  unfold Blk at *
  rw [setCell_other' _ _ _ _ _ hne, setCell_other' _ _ _ _ _ hne]; exact h
theorem cells_pl {w' : World} {n nf X Y : Nat} {a b c d : Value} {tR tF : TypeId} {l : List (Nat × TypeId × Array Value)} (h : Bks w' ((n, tR, #[a, b, c, d]) :: (nf, tF, #[Value.float .f64 X, Value.float .f64 Y]) :: l)) :
    w'.cell? ⟨n, 0, none⟩ = some a ∧ w'.cell? ⟨nf, 0, none⟩ = some (.float .f64 X) ∧ w'.cell? ⟨nf, 1, none⟩ = some (.float .f64 Y) := ⟨h.1.cell 0, h.2.1.cell 0, h.2.1.cell 1⟩
set_option maxHeartbeats 8000000 in
theorem gplace_in {A : Nat → Addr} (z : Int) (s : Bool) (e n : Int) (h : OkRef z e n) (K lon lat : Int)
    (HF : ∀ w, World8 A w → Calls Tryz.prog 26 #[stripV gA gF ((6 * z - 183) * 1000000000) gS, flatU (pX e) (pY s n)] w (fun e w' => ∃ v, e = .returned (.tuple #[placeU lon lat, v]) ∧ ErrOf A K v ∧ Ext w w'))
    (w : World) (h8 : World8 A w) : Calls Tryz.prog 9 #[refV z s e n] w (fun e w' => ∃ v, e = .returned (.tuple #[placeU lon lat, v]) ∧ ErrOf A K v ∧ Ext w w') := by
  have HV := Lib.hid (fun w => refValid_ok z s e n h w)
  have HS := Lib.hid (fun w h8 => gstrip_c (A := A) z h.1 h.2.1 w h8)
  have HT := Lib.hid HF
  have H8 := Lib.hid h8
  obtain ⟨_, _, e1, e2, n1, n2⟩ := h
  have W1 : IntKind.i64.wrap (e - 500000) = e - 500000 := IntWalk.i64_in _ ⟨by omega, by omega⟩
  have W2 : IntKind.i64.wrap (n - 10000000) = n - 10000000 := IntWalk.i64_in _ ⟨by omega, by omega⟩
  clear HF h8 e1 e2 n1 n2
  unfold pX at HT
  cases s
  · have hY : pY false n = floatOfInt .f64 n := if_neg (by decide)
    rw [hY] at HT
    go_enter Tryz.func9, Tryz.ntmps9
    go_wp2_with (first
      | (go_at_call 18; go_must (refine (HV.out _).mono ?_; rintro e w1 ⟨rfl, hx⟩; obtain ⟨hb1, hb2, hw⟩ := ext2 hx; clear hx; have c1 := hb1.cell; have l1 := hb1.lt; have l2 := hb2.lt)))
    obtain ⟨wz, hwz⟩ : ∃ wz, wz = w1.alloc (Obj.cells #[Value.float .f64 (floatOfInt .f64 (e - 500000)), Value.float .f64 (floatOfInt .f64 n)] 48) := ⟨_, rfl⟩
    rw [← hwz]
    have hE0 : Ext w1 wz := by rw [hwz]; exact (Ext.refl _).alloc _
    have hbF : Blk wz w1.heap.size 48 #[Value.float .f64 (floatOfInt .f64 (e - 500000)), Value.float .f64 (floatOfInt .f64 n)] := by rw [hwz]; exact Blk.new _ _ _
    have hB0 : Bks wz [(w.heap.size, 27, #[Value.int .i64 z, Value.bool false, Value.int .i64 e, Value.int .i64 n]), (w1.heap.size, 48, #[Value.float .f64 (floatOfInt .f64 (e - 500000)), Value.float .f64 (floatOfInt .f64 n)]), (w.heap.size + 1, 23, #[Value.int .i64 0, Value.int .i64 0])] := ⟨hb1.ext hE0, hbF, hb2.ext hE0, trivial⟩
    replace hw := hw.trans hE0
    have hn1 : w1.heap.size ≠ w.heap.size + 1 := (Nat.ne_of_lt l2).symm
    generalize w1.heap.size = nf at *
    generalize floatOfInt .f64 (e - 500000) = X at *
    generalize floatOfInt .f64 n = Y at *
    clear hb1 hb2 hbF c1 hE0 hwz hY
    have hB := hB0
    clear hB0
    have kc := And.intro hB.1.cell hB.2.1.cell
    have kl := And.intro hB.1.lt (And.intro hB.2.1.lt hB.2.2.1.lt)
    go_region_held3 (fun w' => w'.cell? ⟨w.heap.size, 0, none⟩ = some (.int .i64 z) ∧ w'.cell? ⟨nf, 0, none⟩ = some (.float .f64 X) ∧ w'.cell? ⟨nf, 1, none⟩ = some (.float .f64 Y))
      (first | (refine cells_pl (Bks.ext hB3 ?_); (repeat (first | exact Ext.refl _ | refine Ext.drew ?_ | refine Ext.alloc ?_ _)); done) | (refine cells_pl (Bks.ext hB2 ?_); (repeat (first | exact Ext.refl _ | refine Ext.drew ?_ | refine Ext.alloc ?_ _)); done) | (refine cells_pl (Bks.ext hB ?_); (repeat (first | exact Ext.refl _ | refine Ext.drew ?_ | refine Ext.alloc ?_ _)); done) | (exact cells_pl (l := []) ⟨two_far hB3.1 (Nat.ne_of_lt (Nat.lt_succ_self _)), two_far hB3.2.1 hn1, trivial⟩))
      (first
      | (go_at_call 15; refine (HS.out _ (H8.out.ext (by repeat (first | exact hw | refine Ext.drew ?_ | refine Ext.alloc ?_ _)))).mono ?_; rintro e w2 ⟨rfl, hx⟩; have hE : Ext wz w2 := (by first | exact hx.of_drew | exact bareN hx rfl rfl rfl rfl); clear kc kl; have hB2 := hB.ext hE; have kc := And.intro hB2.1.cell hB2.2.1.cell; have kl := And.intro hB2.1.lt (And.intro hB2.2.1.lt hB2.2.2.1.lt))
      | (go_at_call 26; refine (HT.out _ (H8.out.ext (by repeat (first | exact hw.trans hE | refine Ext.drew ?_ | refine Ext.alloc ?_ _)))).mono ?_; rintro e w3 ⟨v2, rfl, hv2, hx'⟩; have hF : Ext w2 w3 := (by first | exact bareN hx' rfl rfl rfl rfl); have hB3 := hB2.ext hF; clear kc; have cQ := hB3.2.2.1.cell; have fQ := hB3.2.2.1.frozen))
    all_goals
      (try go_wp2_with fail)
    all_goals
      obtain ⟨hx, _, k2⟩ := fin_two (u := .int .i64 lon) (v := .int .i64 lat) (l := []) ((hw.trans hE).trans hF) trivial hB3.2.2.1 (by simp) (by omega)
      have kq := k2.cell
      exact bodyPost_ret (v := .tuple #[placeU lon lat, v2]) (by simp [results, Tryz.results9, go_sem, kq]) rfl ⟨v2, rfl, hv2, by repeat (first | exact hx | refine Ext.drew ?_)⟩
  · have hY : pY true n = floatOfInt .f64 (n - 10000000) := if_pos rfl
    rw [hY] at HT
    go_enter Tryz.func9, Tryz.ntmps9
    go_wp2_with (first
      | (go_at_call 18; go_must (refine (HV.out _).mono ?_; rintro e w1 ⟨rfl, hx⟩; obtain ⟨hb1, hb2, hw⟩ := ext2 hx; clear hx; have c1 := hb1.cell; have l1 := hb1.lt; have l2 := hb2.lt)))

    obtain ⟨wz, hwz⟩ : ∃ wz, wz = w1.alloc (Obj.cells #[Value.float .f64 (floatOfInt .f64 (e - 500000)), Value.float .f64 (floatOfInt .f64 (n - 10000000))] 48) := ⟨_, rfl⟩
    rw [← hwz]
    have hE0 : Ext w1 wz := by rw [hwz]; exact (Ext.refl _).alloc _
    have hbF : Blk wz w1.heap.size 48 #[Value.float .f64 (floatOfInt .f64 (e - 500000)), Value.float .f64 (floatOfInt .f64 (n - 10000000))] := by rw [hwz]; exact Blk.new _ _ _
    have hB0 : Bks wz [(w.heap.size, 27, #[Value.int .i64 z, Value.bool true, Value.int .i64 e, Value.int .i64 n]), (w1.heap.size, 48, #[Value.float .f64 (floatOfInt .f64 (e - 500000)), Value.float .f64 (floatOfInt .f64 (n - 10000000))]), (w.heap.size + 1, 23, #[Value.int .i64 0, Value.int .i64 0])] := ⟨hb1.ext hE0, hbF, hb2.ext hE0, trivial⟩
    replace hw := hw.trans hE0
    have hn1 : w1.heap.size ≠ w.heap.size + 1 := (Nat.ne_of_lt l2).symm
    generalize w1.heap.size = nf at *
    generalize floatOfInt .f64 (e - 500000) = X at *
    generalize floatOfInt .f64 (n - 10000000) = Y at *
    clear hb1 hb2 hbF c1 hE0 hwz hY
    have hB := hB0
    clear hB0
    have kc := And.intro hB.1.cell hB.2.1.cell
    have kl := And.intro hB.1.lt (And.intro hB.2.1.lt hB.2.2.1.lt)
    go_region_held3 (fun w' => w'.cell? ⟨w.heap.size, 0, none⟩ = some (.int .i64 z) ∧ w'.cell? ⟨nf, 0, none⟩ = some (.float .f64 X) ∧ w'.cell? ⟨nf, 1, none⟩ = some (.float .f64 Y))
      (first | (refine cells_pl (Bks.ext hB3 ?_); (repeat (first | exact Ext.refl _ | refine Ext.drew ?_ | refine Ext.alloc ?_ _)); done) | (refine cells_pl (Bks.ext hB2 ?_); (repeat (first | exact Ext.refl _ | refine Ext.drew ?_ | refine Ext.alloc ?_ _)); done) | (refine cells_pl (Bks.ext hB ?_); (repeat (first | exact Ext.refl _ | refine Ext.drew ?_ | refine Ext.alloc ?_ _)); done) | (exact cells_pl (l := []) ⟨two_far hB3.1 (Nat.ne_of_lt (Nat.lt_succ_self _)), two_far hB3.2.1 hn1, trivial⟩))
      (first
      | (go_at_call 15; refine (HS.out _ (H8.out.ext (by repeat (first | exact hw | refine Ext.drew ?_ | refine Ext.alloc ?_ _)))).mono ?_; rintro e w2 ⟨rfl, hx⟩; have hE : Ext wz w2 := (by first | exact hx.of_drew | exact bareN hx rfl rfl rfl rfl); clear kc kl; have hB2 := hB.ext hE; have kc := And.intro hB2.1.cell hB2.2.1.cell; have kl := And.intro hB2.1.lt (And.intro hB2.2.1.lt hB2.2.2.1.lt))
      | (go_at_call 26; refine (HT.out _ (H8.out.ext (by repeat (first | exact hw.trans hE | refine Ext.drew ?_ | refine Ext.alloc ?_ _)))).mono ?_; rintro e w3 ⟨v2, rfl, hv2, hx'⟩; have hF : Ext w2 w3 := (by first | exact bareN hx' rfl rfl rfl rfl); have hB3 := hB2.ext hF; clear kc; have cQ := hB3.2.2.1.cell; have fQ := hB3.2.2.1.frozen))
    all_goals
      (try go_wp2_with fail)
    all_goals
      obtain ⟨hx, _, k2⟩ := fin_two (u := .int .i64 lon) (v := .int .i64 lat) (l := []) ((hw.trans hE).trans hF) trivial hB3.2.2.1 (by simp) (by omega)
      have kq := k2.cell
      exact bodyPost_ret (v := .tuple #[placeU lon lat, v2]) (by simp [results, Tryz.results9, go_sem, kq]) rfl ⟨v2, rfl, hv2, by repeat (first | exact hx | refine Ext.drew ?_)⟩
end Go.Proofs.YtcppgbhjbmfldaaGreatDoor
