/- Walks: of which reference a place is: the reference's RefAt. -/
import Derived.Test.YtcppgbhjbmfldaaGreatDoorZW
import Derived.Test.YtcppgbhjbmfldaaGreatDoorZX
import Derived.Test.YtcppgbhjbmfldaaGreatDoorZM
namespace Go.Proofs.YtcppgbhjbmfldaaGreatDoor
open Go.RowKit Go.Fp Go.Fp.Tri Go.Rel
set_option maxRecDepth 20000

/-- the numbers of a place on its strip -/
def gX (lon lat : Int) : Nat := stripX gA gF gS (uS gF lat (dS ((6 * zoneP lon - 183) * 1000000000) lon)) (vS gF lat (dS ((6 * zoneP lon - 183) * 1000000000) lon))
def gY (lon lat : Int) : Nat := stripY gA gF gS (uS gF lat (dS ((6 * zoneP lon - 183) * 1000000000) lon)) (vS gF lat (dS ((6 * zoneP lon - 183) * 1000000000) lon))
/-- east and north of a reference -/
def gE (lon lat : Int) : Int := nearV (fadd (gX lon lat) g5e5)
def gN (lon lat : Int) : Int := if lat < 0 then nearV (fadd (gY lon lat) g1e7) else nearV (gY lon lat)
theorem gX_at {lon lat : Int} (l1 : -80000000000 ≤ lat) (l2 : lat ≤ 84000000000) : (Fp.Fin (gX lon lat) ∧ Wn (vl (gX lon lat)) 20000000) ∧ (Fp.Fin (gY lon lat) ∧ Wn (vl (gY lon lat)) 20000000) := by
  obtain ⟨t1, t2⟩ := zone_off lon
  exact grid_at l1 l2 t1 t2
theorem look_grid {lon lat : Int} (l1 : -80000000000 ≤ lat) (l2 : lat ≤ 84000000000) : lookK 0 lat (signP (dS ((6 * zoneP lon - 183) * 1000000000) lon)) = 0 := by
  obtain ⟨t1, t2⟩ := zone_off lon
  unfold lookK
  rw [if_neg (by omega), if_neg (by omega)]
theorem real_eq {x X : Nat} (h : can x = X) (hX : Fp.Fin X) : x = X := by
  have := can_fix (r := x) (X := X) (by rw [h, hX.can]) (real_fin hX)
  exact this
set_option maxHeartbeats 4000000 in
theorem refAt_out (lon lat : Int) (w : World) (h : lat < -80000000000 ∨ 84000000000 < lat) : Calls Tryz.prog 6 #[placeU lon lat] w (ExR (.tuple #[refV 0 false 0 0, .int .i64 4]) w) := by
  rcases h with h | h
  all_goals
    go_enter Tryz.func6, Tryz.ntmps6
    go_wp2_with fail
    exact bodyPost_ret (v := .tuple #[refV 0 false 0 0, .int .i64 4]) (by simp [results, Tryz.results6, go_sem]) rfl ⟨rfl, by repeat (first | exact Ext.refl _ | refine Ext.alloc ?_ _ | refine Ext.setCell ?_ (by simp) _)⟩
theorem fin_plus {x y : Nat} (hx : Fp.Fin x) (hy : Fp.Fin y) : D.add x y = some (fadd x y) := by
  obtain ⟨s, m, i, hx⟩ := hx
  obtain ⟨t, n, j, hy⟩ := hy
  have e : ∃ r, D.add x y = some r := by unfold Ieee.Format.add; rw [hx, hy]; exact ⟨_, rfl⟩
  obtain ⟨r, e⟩ := e
  unfold fadd; rw [e]; rfl
theorem plus_run {x y : Nat} (hx : Fp.Fin x) (hy : Fp.Fin y) : ∀ t w, (binOp .add t (.float .f64 x) (.float .f64 y)).run Tryz.prog w = .ok (.float .f64 (fadd x y)) w := fun t w => run_float_arith w .add t .f64 _ _ _ (fin_plus hx hy)
theorem cellsRA {w' : World} {n nb X Y : Nat} {p q : Int} {tP tF : TypeId} {l : List (Nat × TypeId × Array Value)} (h : Bks w' ((n, tP, #[Value.int .i64 p, Value.int .i64 q]) :: (nb, tF, #[Value.float .f64 X, Value.float .f64 Y]) :: l)) :
    w'.cell? ⟨n, 0, none⟩ = some (.int .i64 p) ∧ w'.cell? ⟨n, 1, none⟩ = some (.int .i64 q) ∧ w'.cell? ⟨nb, 0, none⟩ = some (.float .f64 X) ∧ w'.cell? ⟨nb, 1, none⟩ = some (.float .f64 Y) :=
  ⟨h.1.cell 0, h.1.cell 1, h.2.1.cell 0, h.2.1.cell 1⟩
theorem fin_four {w w3 : World} {l : List (Nat × TypeId × Array Value)} {n : Nat} {t : TypeId} {a b c d u v x y : Value} (h : Ext w w3) (hl : Bks w3 l) (hz : Blk w3 n t #[a, b, c, d]) (hlt : ∀ x ∈ l, x.1 < n) (hw : w.heap.size ≤ n) :
    Ext w ((((w3.setCell ⟨n, 0, none⟩ u).setCell ⟨n, 1, none⟩ v).setCell ⟨n, 2, none⟩ x).setCell ⟨n, 3, none⟩ y) ∧ Bks ((((w3.setCell ⟨n, 0, none⟩ u).setCell ⟨n, 1, none⟩ v).setCell ⟨n, 2, none⟩ x).setCell ⟨n, 3, none⟩ y) l ∧
    Blk ((((w3.setCell ⟨n, 0, none⟩ u).setCell ⟨n, 1, none⟩ v).setCell ⟨n, 2, none⟩ x).setCell ⟨n, 3, none⟩ y) n t #[u, v, x, y] := by
  have ho : ∀ k, k ≠ n → ((((w3.setCell ⟨n, 0, none⟩ u).setCell ⟨n, 1, none⟩ v).setCell ⟨n, 2, none⟩ x).setCell ⟨n, 3, none⟩ y).heap[k]? = w3.heap[k]? := fun k hk => by
    rw [setCell_other' _ _ _ _ _ hk, setCell_other' _ _ _ _ _ hk, setCell_other' _ _ _ _ _ hk, setCell_other' _ _ _ _ _ hk]
  refine ⟨(((h.setCell hw _).setCell hw _).setCell hw _).setCell hw _, hl.same ho (fun x hx => Nat.ne_of_lt (hlt x hx)), ?_⟩
  simpa using blk_set' (i := 3) y (blk_set' (i := 2) x (blk_set' (i := 1) v (blk_set' (i := 0) u hz)))
/-- what the walks of a place's reference are told of the numbers -/
structure ToldR (lon lat z E Nn : Int) (X Y Xe Yn : Nat) : Prop where
  z1 : 1 ≤ z
  z2 : z ≤ 60
  zn : ∀ w, Calls Tryz.prog 20 #[.int .i64 lon] w (ExR (.int .i64 z) w)
  gz : ∀ w, Calls Tryz.prog 14 #[.int .i64 lon] w (ExR (.int .i64 z) w)
  tn : ∀ w, Calls Tryz.prog 21 #[stripV gA gF ((6 * z - 183) * 1000000000) gS, placeU lon lat] w (fun e w' => ∃ d u t v, e = .returned (.tuple #[wideV t d u v, .int .i64 0]) ∧ (∀ w, Calls Tryz.prog 22 #[stripV gA gF ((6 * z - 183) * 1000000000) gS, wideV t d u v] w (ExR (flatU X Y) w)) ∧ Ext w w')
  too : ∀ (A : Nat → Addr) w, World8 A w → Calls Tryz.prog 16 #[stripV gA gF ((6 * z - 183) * 1000000000) gS, placeU lon lat] w (ExR (.tuple #[flatU X Y, .nilIface]) w)
  xe : ∀ t w, (binOp .add t (.float .f64 X) (.float .f64 g5e5)).run Tryz.prog w = .ok (.float .f64 Xe) w
  yn : ∀ t w, (binOp .add t (.float .f64 Y) (.float .f64 g1e7)).run Tryz.prog w = .ok (.float .f64 Yn) w
  ev : ∀ w, Calls Tryz.prog 23 #[.float .f64 Xe] w (ExR (.int .i64 E) w)
  nv : ∀ w, Calls Tryz.prog 23 #[.float .f64 (if lat < 0 then Yn else Y)] w (ExR (.int .i64 Nn) w)
  er : ∀ r, IntR .even Xe r → ∀ w, (convert 41 3 (.float .f64 r)).run Tryz.prog w = .ok (.int .i64 E) w
  nr : ∀ r, IntR .even (if lat < 0 then Yn else Y) r → ∀ w, (convert 41 3 (.float .f64 r)).run Tryz.prog w = .ok (.int .i64 Nn) w
  xq : isNan Xe = false
  yq : isNan (if lat < 0 then Yn else Y) = false
open Go.Fp.Tri in
theorem told_grid {lon lat : Int} (l1 : -80000000000 ≤ lat) (l2 : lat ≤ 84000000000) : ToldR lon lat (zoneP lon) (gE lon lat) (gN lon lat) (gX lon lat) (gY lon lat) (fadd (gX lon lat) g5e5) (fadd (gY lon lat) g1e7) := by
  obtain ⟨z1, z2⟩ := zone_in lon
  obtain ⟨⟨fX, bX⟩, ⟨fY, bY⟩⟩ := gX_at (lon := lon) l1 l2
  obtain ⟨f1, b1, _⟩ := whole_near fX bX v_g5e5.1 v_g5e5.2 (by grind) (by grind)
  obtain ⟨f2, b2, _⟩ := whole_near fY bY v_g1e7.1 v_g1e7.2 (by grind) (by grind)
  have hl := look_grid (lon := lon) l1 l2
  have bY' := bY.mono (show (20000000 : Rat) ≤ 1000000000 by grind)
  refine ⟨z1, z2, zoneOf_c lon, zone_c lon, ?_, ?_, plus_run fX v_g5e5.1, plus_run fY v_g1e7.1, even_c f1 b1, ?_, fun r hr w => conv_run w (even_prog f1 b1 hr), ?_, real_fin f1, ?_⟩
  · intro w
    refine (turned_ok gA gF ((6 * zoneP lon - 183) * 1000000000) gS lon lat w grid_fine hl).mono ?_
    rintro e w' ⟨t, v, rfl, ht, hv, hx⟩
    refine ⟨_, _, t, v, rfl, fun w2 => ?_, hx⟩
    refine (onStrip_c gA gF ((6 * zoneP lon - 183) * 1000000000) gS t _ _ v w2 (strP_ok grid_fine).1 (signP_range _).1 (signP_range _).2).mono ?_
    rintro e w3 ⟨x, y, rfl, h1, h2, hx3⟩
    rw [hv] at h1 h2
    obtain rfl := real_eq (X := gX lon lat) h1 fX
    obtain rfl := real_eq (X := gY lon lat) h2 fY
    exact ⟨rfl, hx3⟩
  · intro A w h8
    refine (sto_ok gA gF ((6 * zoneP lon - 183) * 1000000000) gS lon lat w h8 grid_fine hl).mono ?_
    rintro e w3 ⟨x, y, rfl, h1, h2, hx3⟩
    obtain rfl := real_eq (X := gX lon lat) h1 fX
    obtain rfl := real_eq (X := gY lon lat) h2 fY
    exact ⟨rfl, hx3⟩
  · unfold gN
    by_cases h : lat < 0
    · rw [if_pos h, if_pos h]; exact even_c f2 b2
    · rw [if_neg h, if_neg h]; exact even_c fY bY'
  · unfold gN
    by_cases h : lat < 0
    · rw [if_pos h, if_pos h]; exact fun r hr w => conv_run w (even_prog f2 b2 hr)
    · rw [if_neg h, if_neg h]; exact fun r hr w => conv_run w (even_prog fY bY' hr)
  · by_cases h : lat < 0
    · rw [if_pos h]; exact real_fin f2
    · rw [if_neg h]; exact real_fin fY
end Go.Proofs.YtcppgbhjbmfldaaGreatDoor
