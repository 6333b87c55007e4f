/- The walk of the statement WaveGood. Printed by gen_wavelaw2.py. -/
import Derived.Test.YtddjppaccpioiaaDoorBG
namespace Go.Proofs.YtddjppaccpioiaaDoor
open Go.RowKit Go.Fp Go.Fp.Tri Go.Rel
set_option maxRecDepth 20000

set_option maxHeartbeats 4000000 in
theorem waveGood_1 (a f : Nat) (mid : Int) (sc : Nat) (lon lat : Int) (w : World) (hm : mildB a f = false) : Calls Tryd.prog 5 #[stripV a f mid sc, placeU lon lat] w (ExR (.bool true) w) := by
  have HM := Lib.hid (mild_c a f)
  rw [hm] at HM
  have HP := Lib.hid (fun w => stripError_c a f mid sc w)
  have HX := Lib.hid (apart_c lon mid)
  generalize (if apartP lon mid < 0 then -apartP lon mid else apartP lon mid) = g at *
  go_enter Tryd.func5, Tryd.ntmps5
  go_wp2_with (first
    | (go_at_call 14; go_must (refine (waved_c0 (A := fun _ => ⟨0, 0, none⟩) _ ⟨⟩).mono ?_; rintro e w1 ⟨rfl, hx⟩; obtain ⟨hb1, hb2, hw⟩ := ext2 hx; have c1 := hb1.cell; have c2 := hb2.cell; clear hx))
    | (go_at_call 25; go_must (refine (HM.out _).mono ?_; rintro e w2 ⟨rfl, hx⟩; replace hb1 := hb1.ext hx; replace hb2 := hb2.ext hx; replace hw := hw.trans hx; clear hx c1 c2; have c1 := hb1.cell; have c2 := hb2.cell))
    | (go_at_call 15; go_must (refine (HP.out _).mono ?_; rintro e wz ⟨rfl, hx⟩; replace hb1 := hb1.ext hx; replace hb2 := hb2.ext hx; replace hw := hw.trans hx; clear hx c1 c2; have c1 := hb1.cell; have c2 := hb2.cell))
    | (go_at_call 16; go_must (refine (HX.out _).mono ?_; rintro e w2 ⟨rfl, hx⟩; replace hb1 := hb1.ext hx; replace hb2 := hb2.ext hx; replace hw := hw.trans hx; clear hx c1 c2; have c1 := hb1.cell; have c2 := hb2.cell)))
  all_goals go_ret
  all_goals exact ⟨rfl, hw⟩
set_option maxHeartbeats 4000000 in
theorem waveGood_2 (a f : Nat) (mid : Int) (sc : Nat) (lon lat : Int) (w : World) (hm : mildB a f = true) (hp : strP (okG a f) sc = 3) : Calls Tryd.prog 5 #[stripV a f mid sc, placeU lon lat] w (ExR (.bool true) w) := by
  have HM := Lib.hid (mild_c a f)
  rw [hm] at HM
  have HP := Lib.hid (fun w => stripError_c a f mid sc w)
  rw [hp] at HP
  have HX := Lib.hid (apart_c lon mid)
  generalize (if apartP lon mid < 0 then -apartP lon mid else apartP lon mid) = g at *
  go_enter Tryd.func5, Tryd.ntmps5
  go_wp2_with (first
    | (go_at_call 14; go_must (refine (waved_c0 (A := fun _ => ⟨0, 0, none⟩) _ ⟨⟩).mono ?_; rintro e w1 ⟨rfl, hx⟩; obtain ⟨hb1, hb2, hw⟩ := ext2 hx; have c1 := hb1.cell; have c2 := hb2.cell; clear hx))
    | (go_at_call 25; go_must (refine (HM.out _).mono ?_; rintro e w2 ⟨rfl, hx⟩; replace hb1 := hb1.ext hx; replace hb2 := hb2.ext hx; replace hw := hw.trans hx; clear hx c1 c2; have c1 := hb1.cell; have c2 := hb2.cell))
    | (go_at_call 15; go_must (refine (HP.out _).mono ?_; rintro e wz ⟨rfl, hx⟩; replace hb1 := hb1.ext hx; replace hb2 := hb2.ext hx; replace hw := hw.trans hx; clear hx c1 c2; have c1 := hb1.cell; have c2 := hb2.cell))
    | (go_at_call 16; go_must (refine (HX.out _).mono ?_; rintro e w2 ⟨rfl, hx⟩; replace hb1 := hb1.ext hx; replace hb2 := hb2.ext hx; replace hw := hw.trans hx; clear hx c1 c2; have c1 := hb1.cell; have c2 := hb2.cell)))
  all_goals go_ret
  all_goals exact ⟨rfl, hw⟩
set_option maxHeartbeats 4000000 in
theorem waveGood_3 (a f : Nat) (mid : Int) (sc : Nat) (lon lat : Int) (w : World) (hm : mildB a f = true) (hp : strP (okG a f) sc = 0) (hl : 84000000000 < lat) : Calls Tryd.prog 5 #[stripV a f mid sc, placeU lon lat] w (ExR (.bool true) w) := by
  have HM := Lib.hid (mild_c a f)
  rw [hm] at HM
  have HP := Lib.hid (fun w => stripError_c a f mid sc w)
  rw [hp] at HP
  have HX := Lib.hid (apart_c lon mid)
  generalize (if apartP lon mid < 0 then -apartP lon mid else apartP lon mid) = g at *
  go_enter Tryd.func5, Tryd.ntmps5
  go_wp2_with (first
    | (go_at_call 14; go_must (refine (waved_c0 (A := fun _ => ⟨0, 0, none⟩) _ ⟨⟩).mono ?_; rintro e w1 ⟨rfl, hx⟩; obtain ⟨hb1, hb2, hw⟩ := ext2 hx; have c1 := hb1.cell; have c2 := hb2.cell; clear hx))
    | (go_at_call 25; go_must (refine (HM.out _).mono ?_; rintro e w2 ⟨rfl, hx⟩; replace hb1 := hb1.ext hx; replace hb2 := hb2.ext hx; replace hw := hw.trans hx; clear hx c1 c2; have c1 := hb1.cell; have c2 := hb2.cell))
    | (go_at_call 15; go_must (refine (HP.out _).mono ?_; rintro e wz ⟨rfl, hx⟩; replace hb1 := hb1.ext hx; replace hb2 := hb2.ext hx; replace hw := hw.trans hx; clear hx c1 c2; have c1 := hb1.cell; have c2 := hb2.cell))
    | (go_at_call 16; go_must (refine (HX.out _).mono ?_; rintro e w2 ⟨rfl, hx⟩; replace hb1 := hb1.ext hx; replace hb2 := hb2.ext hx; replace hw := hw.trans hx; clear hx c1 c2; have c1 := hb1.cell; have c2 := hb2.cell)))
  all_goals go_ret
  all_goals exact ⟨rfl, hw⟩
set_option maxHeartbeats 4000000 in
theorem waveGood_4 (a f : Nat) (mid : Int) (sc : Nat) (lon lat : Int) (w : World) (hm : mildB a f = true) (hp : strP (okG a f) sc = 0) (hl : ¬ 84000000000 < lat) (hl2 : lat < -84000000000) : Calls Tryd.prog 5 #[stripV a f mid sc, placeU lon lat] w (ExR (.bool true) w) := by
  have HM := Lib.hid (mild_c a f)
  rw [hm] at HM
  have HP := Lib.hid (fun w => stripError_c a f mid sc w)
  rw [hp] at HP
  have HX := Lib.hid (apart_c lon mid)
  generalize (if apartP lon mid < 0 then -apartP lon mid else apartP lon mid) = g at *
  go_enter Tryd.func5, Tryd.ntmps5
  go_wp2_with (first
    | (go_at_call 14; go_must (refine (waved_c0 (A := fun _ => ⟨0, 0, none⟩) _ ⟨⟩).mono ?_; rintro e w1 ⟨rfl, hx⟩; obtain ⟨hb1, hb2, hw⟩ := ext2 hx; have c1 := hb1.cell; have c2 := hb2.cell; clear hx))
    | (go_at_call 25; go_must (refine (HM.out _).mono ?_; rintro e w2 ⟨rfl, hx⟩; replace hb1 := hb1.ext hx; replace hb2 := hb2.ext hx; replace hw := hw.trans hx; clear hx c1 c2; have c1 := hb1.cell; have c2 := hb2.cell))
    | (go_at_call 15; go_must (refine (HP.out _).mono ?_; rintro e wz ⟨rfl, hx⟩; replace hb1 := hb1.ext hx; replace hb2 := hb2.ext hx; replace hw := hw.trans hx; clear hx c1 c2; have c1 := hb1.cell; have c2 := hb2.cell))
    | (go_at_call 16; go_must (refine (HX.out _).mono ?_; rintro e w2 ⟨rfl, hx⟩; replace hb1 := hb1.ext hx; replace hb2 := hb2.ext hx; replace hw := hw.trans hx; clear hx c1 c2; have c1 := hb1.cell; have c2 := hb2.cell)))
  all_goals go_ret
  all_goals exact ⟨rfl, hw⟩
set_option maxHeartbeats 4000000 in
theorem waveGood_5 (a f : Nat) (mid : Int) (sc : Nat) (lon lat : Int) (w : World) (hm : mildB a f = true) (hp : strP (okG a f) sc = 0) (hl : ¬ 84000000000 < lat) (hl2 : ¬ lat < -84000000000) (hg : 30000000000 < (if apartP lon mid < 0 then -apartP lon mid else apartP lon mid)) : Calls Tryd.prog 5 #[stripV a f mid sc, placeU lon lat] w (ExR (.bool true) w) := by
  have HM := Lib.hid (mild_c a f)
  rw [hm] at HM
  have HP := Lib.hid (fun w => stripError_c a f mid sc w)
  rw [hp] at HP
  have HX := Lib.hid (apart_c lon mid)
  generalize (if apartP lon mid < 0 then -apartP lon mid else apartP lon mid) = g at *
  go_enter Tryd.func5, Tryd.ntmps5
  go_wp2_with (first
    | (go_at_call 14; go_must (refine (waved_c0 (A := fun _ => ⟨0, 0, none⟩) _ ⟨⟩).mono ?_; rintro e w1 ⟨rfl, hx⟩; obtain ⟨hb1, hb2, hw⟩ := ext2 hx; have c1 := hb1.cell; have c2 := hb2.cell; clear hx))
    | (go_at_call 25; go_must (refine (HM.out _).mono ?_; rintro e w2 ⟨rfl, hx⟩; replace hb1 := hb1.ext hx; replace hb2 := hb2.ext hx; replace hw := hw.trans hx; clear hx c1 c2; have c1 := hb1.cell; have c2 := hb2.cell))
    | (go_at_call 15; go_must (refine (HP.out _).mono ?_; rintro e wz ⟨rfl, hx⟩; replace hb1 := hb1.ext hx; replace hb2 := hb2.ext hx; replace hw := hw.trans hx; clear hx c1 c2; have c1 := hb1.cell; have c2 := hb2.cell))
    | (go_at_call 16; go_must (refine (HX.out _).mono ?_; rintro e w2 ⟨rfl, hx⟩; replace hb1 := hb1.ext hx; replace hb2 := hb2.ext hx; replace hw := hw.trans hx; clear hx c1 c2; have c1 := hb1.cell; have c2 := hb2.cell)))
  all_goals go_ret
  all_goals exact ⟨rfl, hw⟩
def SpAp (la lat n1 lo lon n2 : Int) (args : Array Value) (v : Value) : Prop := (args = #[.int .i64 la, .int .i64 lat] ∧ v = .int .i64 n1) ∨ (args = #[.int .i64 lo, .int .i64 lon] ∧ v = .int .i64 n2)
theorem spAp_a {la lat n1 lo lon n2 : Int} (h : la = lo → lat = lon → n1 = n2) (v : Value) : SpAp la lat n1 lo lon n2 #[.int .i64 la, .int .i64 lat] v ↔ v = .int .i64 n1 := by
  unfold SpAp
  constructor
  · rintro (⟨_, h2⟩ | ⟨h1, h2⟩)
    · exact h2
    · simp at h1
      rw [h h1.1 h1.2]; exact h2
  · exact fun h => .inl ⟨rfl, h⟩
theorem spAp_o {la lat n1 lo lon n2 : Int} (h : la = lo → lat = lon → n1 = n2) (v : Value) : SpAp la lat n1 lo lon n2 #[.int .i64 lo, .int .i64 lon] v ↔ v = .int .i64 n2 := by
  unfold SpAp
  constructor
  · rintro (⟨h1, h2⟩ | ⟨_, h2⟩)
    · simp at h1
      rw [← h h1.1.symm h1.2.symm]; exact h2
    · exact h2
  · exact fun h => .inr ⟨rfl, h⟩
theorem cellsSA {w' : World} {n a f sc : Nat} {mid p q : Int} {tG tP : TypeId} {l : List (Nat × TypeId × Array Value)} (h : Bks w' ((n, tG, #[Value.float .f64 a, Value.float .f64 f, Value.int .i64 mid, Value.float .f64 sc]) :: (n + 1, tP, #[Value.int .i64 p, Value.int .i64 q]) :: l)) :
    w'.cell? ⟨n, 0, none⟩ = some (.float .f64 a) ∧ w'.cell? ⟨n, 1, none⟩ = some (.float .f64 f) ∧ w'.cell? ⟨n, 2, none⟩ = some (.int .i64 mid) ∧ w'.cell? ⟨n, 3, none⟩ = some (.float .f64 sc) ∧ w'.cell? ⟨n + 1, 0, none⟩ = some (.int .i64 p) ∧ w'.cell? ⟨n + 1, 1, none⟩ = some (.int .i64 q) :=
  ⟨h.1.cell 0, h.1.cell 1, h.1.cell 2, h.1.cell 3, h.2.1.cell 0, h.2.1.cell 1⟩
theorem cellsSF {w' : World} {n nb a f sc X Y : Nat} {mid p q : Int} {tG tP tF : TypeId} {l : List (Nat × TypeId × Array Value)} (h : Bks w' ((n, tG, #[Value.float .f64 a, Value.float .f64 f, Value.int .i64 mid, Value.float .f64 sc]) :: (n + 1, tP, #[Value.int .i64 p, Value.int .i64 q]) :: (nb, tF, #[Value.float .f64 X, Value.float .f64 Y]) :: l)) :
    w'.cell? ⟨n, 0, none⟩ = some (.float .f64 a) ∧ w'.cell? ⟨n, 1, none⟩ = some (.float .f64 f) ∧ w'.cell? ⟨n, 2, none⟩ = some (.int .i64 mid) ∧ w'.cell? ⟨n, 3, none⟩ = some (.float .f64 sc) ∧ w'.cell? ⟨nb, 0, none⟩ = some (.float .f64 X) ∧ w'.cell? ⟨nb, 1, none⟩ = some (.float .f64 Y) :=
  ⟨h.1.cell 0, h.1.cell 1, h.1.cell 2, h.1.cell 3, h.2.2.1.cell 0, h.2.2.1.cell 1⟩
set_option maxHeartbeats 40000000 in
theorem waveGood_in (a f : Nat) (mid : Int) (sc : Nat) (lon lat : Int) (w : World) (hm : mildB a f = true) (hp : strP (okG a f) sc = 0) (hl : ¬ 84000000000 < lat) (hl2 : ¬ lat < -84000000000) (hg : ¬ 30000000000 < (if apartP lon mid < 0 then -apartP lon mid else apartP lon mid))
    {X Y : Nat} {lo la n1 n2 : Int} {most : Nat} (told : ToldW a f mid sc lon lat X Y lo la n1 n2 most)
    (G8 : ((FloatKind.f64.format.order f c004 == some .lt || FloatKind.f64.format.order f c004 == some .eq) = true ∧ (if apartP lon mid < 0 then -apartP lon mid else apartP lon mid) ≤ 6000000000 ∧ most = c2000) ∨ ((FloatKind.f64.format.order f c004 == some .lt || FloatKind.f64.format.order f c004 == some .eq) = true ∧ ¬ (if apartP lon mid < 0 then -apartP lon mid else apartP lon mid) ≤ 6000000000 ∧ most = c5e5) ∨ ((FloatKind.f64.format.order f c004 == some .lt || FloatKind.f64.format.order f c004 == some .eq) = false ∧ most = c5e5)) : Calls Tryd.prog 5 #[stripV a f mid sc, placeU lon lat] w (ExR (.bool true) w) := by
  have HT := Lib.hid told
  have H8 := Lib.hid G8
  clear told G8
  have HM := Lib.hid (mild_c a f)
  rw [hm] at HM
  have HP := Lib.hid (fun w => stripError_c a f mid sc w)
  rw [hp] at HP
  have HX := Lib.hid (apart_c lon mid)
  generalize (if apartP lon mid < 0 then -apartP lon mid else apartP lon mid) = g at *
  clear hm hp
  go_enter Tryd.func5, Tryd.ntmps5
  go_wp2_with (first
    | (go_at_call 14; go_must (refine (waved_c0 (A := fun _ => ⟨0, 0, none⟩) _ ⟨⟩).mono ?_; rintro e w1 ⟨rfl, hx⟩; obtain ⟨hb1, hb2, hw⟩ := ext2 hx; have c1 := hb1.cell; have c2 := hb2.cell; clear hx))
    | (go_at_call 25; go_must (refine (HM.out _).mono ?_; rintro e w2 ⟨rfl, hx⟩; replace hb1 := hb1.ext hx; replace hb2 := hb2.ext hx; replace hw := hw.trans hx; clear hx c1 c2; have c1 := hb1.cell; have c2 := hb2.cell))
    | (go_at_call 15; go_must (refine (HP.out _).mono ?_; rintro e wz ⟨rfl, hx⟩; replace hb1 := hb1.ext hx; replace hb2 := hb2.ext hx; replace hw := hw.trans hx; clear hx c1 c2; have c1 := hb1.cell; have c2 := hb2.cell))
    | (go_at_call 16; go_must (refine (HX.out _).mono ?_; rintro e w2 ⟨rfl, hx⟩; replace hb1 := hb1.ext hx; replace hb2 := hb2.ext hx; replace hw := hw.trans hx; clear hx c1 c2; have c1 := hb1.cell; have c2 := hb2.cell)))
  have hB : Bks wz [(w.heap.size, 46, #[Value.float .f64 a, Value.float .f64 f, Value.int .i64 mid, Value.float .f64 sc]), (w.heap.size + 1, 26, #[Value.int .i64 lon, Value.int .i64 lat])] := ⟨hb1, hb2, trivial⟩
  clear hb1 hb2 c1 c2 HM HP HX
  have kc := And.intro hB.1.cell hB.2.1.cell
  have kl := And.intro hB.1.lt hB.2.1.lt
  go_cut [8, 9] (fun s1 s2 wx => ∃ (nb : Nat), s1 = .pointer (some ⟨nb, 0, none⟩) ∧ s2 = .nilIface ∧ Ext w wx ∧ Bks wx [(w.heap.size, 46, #[Value.float .f64 a, Value.float .f64 f, Value.int .i64 mid, Value.float .f64 sc]), (w.heap.size + 1, 26, #[Value.int .i64 lon, Value.int .i64 lat])] ∧ Blk wx nb 53 #[.float .f64 X, .float .f64 Y])
  case first =>
    have fr1 := Lib.hid hB.fresh
    go_region_held3 (fun w' => w'.cell? ⟨w.heap.size, 0, none⟩ = some (.float .f64 a) ∧ w'.cell? ⟨w.heap.size, 1, none⟩ = some (.float .f64 f) ∧ w'.cell? ⟨w.heap.size, 2, none⟩ = some (.int .i64 mid) ∧ w'.cell? ⟨w.heap.size, 3, none⟩ = some (.float .f64 sc) ∧ w'.cell? ⟨w.heap.size + 1, 0, none⟩ = some (.int .i64 lon) ∧ w'.cell? ⟨w.heap.size + 1, 1, none⟩ = some (.int .i64 lat))
      (first | (refine cellsSA (Bks.ext hB3 ?_); (repeat (first | exact Ext.refl _ | refine Ext.drew ?_ | refine Ext.alloc ?_ _)); done) | (refine cellsSA (Bks.ext hB2 ?_); (repeat (first | exact Ext.refl _ | refine Ext.drew ?_ | refine Ext.alloc ?_ _)); done) | (refine cellsSA (Bks.ext hB ?_); (repeat (first | exact Ext.refl _ | refine Ext.drew ?_ | refine Ext.alloc ?_ _)); done) | (exact cellsSA (fin_two (hw.trans (hE.trans hF)) hB3 hz fr2.out (hw.trans hE).size).2.1) | (refine cellsSA (Bks.ext (fin_two (hw.trans (hE.trans hF)) hB3 hz fr2.out (hw.trans hE).size).2.1 ?_); exact Ext.drew (Ext.refl _)) | (exact cellsSA (fin_two (hw.trans (hE.trans hF)) hB3 hz fr1.out hw.size).2.1) | (refine cellsSA (Bks.ext (fin_two (hw.trans (hE.trans hF)) hB3 hz fr1.out hw.size).2.1 ?_); exact Ext.drew (Ext.refl _)))
      (first
      | (go_at_call 19; refine (strip_c a f mid sc _).mono ?_; rintro e w2 ⟨rfl, hx⟩; have hE : Ext wz w2 := (by first | exact (ext1 hx.of_drew).2 | exact hx.of_drew | exact bareN hx rfl rfl rfl rfl); (first | (have hz := (ext1 hx.of_drew).1) | skip); clear kc kl; have hB2 := hB.ext hE; have fr2 := Lib.hid hB2.fresh; have kc := And.intro hB2.1.cell hB2.2.1.cell; have kl := And.intro hB2.1.lt hB2.2.1.lt)
      | (go_at_call 20; refine (HT.out.too _).mono ?_; rintro e w3 ⟨rfl, hx'⟩; have hF : Ext w2 w3 := (by first | exact bareN hx' rfl rfl rfl rfl | exact bareN (ext1 hx').2 rfl rfl rfl rfl); (first | (have hz := (ext1 hx').1) | (replace hz := hz.ext hF) | skip); have hB3 := hB2.ext hF; clear kc; (first | (have cZ := hz.cell; have fZ := hz.frozen) | skip)))
    all_goals
      have hL3 : Ext w w3 := (hw.trans hE).trans hF
      have s1 : w.heap.size ≤ wz.heap.size := hw.size
      have s2 : w.heap.size ≤ w2.heap.size := (hw.trans hE).size
      (try go_wp2_with fail)
      go_meet
      first
        | exact ⟨w3.heap.size, rfl, rfl, fin_new hL3 hB3⟩
        | exact ⟨w2.heap.size, rfl, rfl, fin_two hL3 hB3 hz fr2.out s2⟩
        | exact ⟨wz.heap.size, rfl, rfl, fin_two hL3 hB3 hz fr1.out s1⟩
  case rest =>
    clear hB hw kc kl
    obtain ⟨nb, rfl, rfl, hw, hBb, hP⟩ := hcut
    have hB : Bks wc [(w.heap.size, 46, #[Value.float .f64 a, Value.float .f64 f, Value.int .i64 mid, Value.float .f64 sc]), (w.heap.size + 1, 26, #[Value.int .i64 lon, Value.int .i64 lat]), (nb, 53, #[Value.float .f64 X, Value.float .f64 Y])] := ⟨hBb.1, hBb.2.1, hP, trivial⟩
    clear hBb hP
    have kc := And.intro hB.1.cell (And.intro hB.2.1.cell hB.2.2.1.cell)
    have kl := And.intro hB.1.lt (And.intro hB.2.1.lt hB.2.2.1.lt)
    go_wp2_with fail
    go_cut [9, 10] (fun s1 s2 wx => ∃ (nq : Nat), s1 = .nilIface ∧ s2 = .pointer (some ⟨nq, 0, none⟩) ∧ Ext w wx ∧ Bks wx [(w.heap.size, 46, #[Value.float .f64 a, Value.float .f64 f, Value.int .i64 mid, Value.float .f64 sc]), (w.heap.size + 1, 26, #[Value.int .i64 lon, Value.int .i64 lat]), (nb, 53, #[Value.float .f64 X, Value.float .f64 Y])] ∧ Blk wx nq 26 #[.int .i64 lo, .int .i64 la])
    case first =>
      have fr1 := Lib.hid hB.fresh
      go_region_held3 (fun w' => w'.cell? ⟨w.heap.size, 0, none⟩ = some (.float .f64 a) ∧ w'.cell? ⟨w.heap.size, 1, none⟩ = some (.float .f64 f) ∧ w'.cell? ⟨w.heap.size, 2, none⟩ = some (.int .i64 mid) ∧ w'.cell? ⟨w.heap.size, 3, none⟩ = some (.float .f64 sc) ∧ w'.cell? ⟨nb, 0, none⟩ = some (.float .f64 X) ∧ w'.cell? ⟨nb, 1, none⟩ = some (.float .f64 Y))
        (first | (refine cellsSF (Bks.ext hB3 ?_); (repeat (first | exact Ext.refl _ | refine Ext.drew ?_ | refine Ext.alloc ?_ _)); done) | (refine cellsSF (Bks.ext hB2 ?_); (repeat (first | exact Ext.refl _ | refine Ext.drew ?_ | refine Ext.alloc ?_ _)); done) | (refine cellsSF (Bks.ext hB ?_); (repeat (first | exact Ext.refl _ | refine Ext.drew ?_ | refine Ext.alloc ?_ _)); done) | (exact cellsSF (fin_two (hw.trans (hE.trans hF)) hB3 hz fr2.out (hw.trans hE).size).2.1) | (refine cellsSF (Bks.ext (fin_two (hw.trans (hE.trans hF)) hB3 hz fr2.out (hw.trans hE).size).2.1 ?_); exact Ext.drew (Ext.refl _)) | (exact cellsSF (fin_two (hw.trans (hE.trans hF)) hB3 hz fr1.out hw.size).2.1) | (refine cellsSF (Bks.ext (fin_two (hw.trans (hE.trans hF)) hB3 hz fr1.out hw.size).2.1 ?_); exact Ext.drew (Ext.refl _)))
        (first
        | (go_at_call 19; refine (strip_c a f mid sc _).mono ?_; rintro e w2 ⟨rfl, hx⟩; have hE : Ext wc w2 := (by first | exact (ext1 hx.of_drew).2 | exact hx.of_drew | exact bareN hx rfl rfl rfl rfl); (first | (have hz := (ext1 hx.of_drew).1) | skip); clear kc kl; have hB2 := hB.ext hE; have fr2 := Lib.hid hB2.fresh; have kc := And.intro hB2.1.cell (And.intro hB2.2.1.cell hB2.2.2.1.cell); have kl := And.intro hB2.1.lt (And.intro hB2.2.1.lt hB2.2.2.1.lt))
        | (go_at_call 26; refine (HT.out.frm _).mono ?_; rintro e w3 ⟨rfl, hx'⟩; have hF : Ext w2 w3 := (by first | exact bareN hx' rfl rfl rfl rfl | exact bareN (ext1 hx').2 rfl rfl rfl rfl); (first | (have hz := (ext1 hx').1) | (replace hz := hz.ext hF) | skip); have hB3 := hB2.ext hF; clear kc; (first | (have cZ := hz.cell; have fZ := hz.frozen) | skip)))
      all_goals
        have hL3 : Ext w w3 := (hw.trans hE).trans hF
        have s1 : w.heap.size ≤ wc.heap.size := hw.size
        have s2 : w.heap.size ≤ w2.heap.size := (hw.trans hE).size
        (try go_wp2_with fail)
        go_meet
        first
          | exact ⟨w3.heap.size, rfl, rfl, fin_new hL3 hB3⟩
          | exact ⟨w2.heap.size, rfl, rfl, fin_two hL3 hB3 hz fr2.out s2⟩
          | exact ⟨wc.heap.size, rfl, rfl, fin_two hL3 hB3 hz fr1.out s1⟩
    case rest =>
      clear kc kl hw hB
      obtain ⟨nq, rfl, rfl, hw, hB, hQ⟩ := hcut
      have kc := hB.1.cell
      have hm1 := HT.out.m1
      have HS := Lib.hid HT.out.same
      rcases H8.out with ⟨G8, g6, rfl⟩ | ⟨G8, g6, rfl⟩ | ⟨G8, rfl⟩
      all_goals
        clear H8
        go_wp2_with fail
        clear kc
        have tk1 : Hid True := trivial
        refine wp_region_all (fun g args v => (g = 16 ∧ SpAp la lat n1 lo lon n2 args v) ∨ (g = 27 ∧ args = #[.int .i64 lat] ∧ v = .float .f64 (cosP lat))) (by kernel_rfl) (by kernel_rfl) ?_
        repeat (first
          | (refine wpR_op rfl (fun w9 hw9 K hK => ?_); go_simp; (with_reducible refine hK _ ?_); clear hK K hw9 w9)
          | (refine wpR_want rfl (fun w9 hw9 K hK => ?_); have k1 := (hB.2.1.ext hw9.of_drew).cell; have k2 := (hQ.ext hw9.of_drew).cell; go_simp; (with_reducible refine hK _ ?_); clear hK K k1 k2 hw9 w9)
          | (refine wpR_want rfl (fun w9 hw9 K hK => ?_); go_simp; (with_reducible refine rel_fl rfl ?_); intro r hr; have hq := HT.out.m2 r hr; (with_reducible refine hK _ ?_); clear hK K hw9 w9)
          | (refine wpR_want rfl (fun w9 hw9 K hK => ?_); clear tk1; go_simp; (with_reducible refine rel_call (ExR.call (HT.out.ala _)) (fun v => ?_) (fun v hv => ?_)); (simp [spAp_a HS.out]); subst hv; refine hK _ ?_; clear hK K hw9 w9)
          | (refine wpR_want rfl (fun w9 hw9 K hK => ?_); go_simp; (with_reducible refine rel_call (ExR.call (HT.out.alo _)) (fun v => ?_) (fun v hv => ?_)); (simp [spAp_o HS.out]); subst hv; refine hK _ ?_; clear hK K hw9 w9)
          | (refine wpR_want rfl (fun w9 hw9 K hK => ?_); go_simp; (with_reducible refine rel_call (ExR.call (HT.out.cos _)) (fun v => ?_) (fun v hv => ?_)); (simp); subst hv; refine hK _ ?_; clear hK K hw9 w9))
        refine wpR_nil ?_
        intro w8 hx8 _
        replace hw := hw.trans hx8.of_drew
        clear hx8 hB hQ
        go_wp2_with fail
        go_ret
        exact ⟨rfl, hw⟩
end Go.Proofs.YtddjppaccpioiaaDoor
