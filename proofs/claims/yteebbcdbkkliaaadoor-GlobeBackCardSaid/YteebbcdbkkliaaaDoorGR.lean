/- The walk of the statement GlobeBack, where it promises something. -/
import Derived.Test.YteebbcdbkkliaaaDoorGQ
namespace Go.Proofs.YteebbcdbkkliaaaDoor
open Go.RowKit Go.Fp Go.Fp.Tri Go.Rel
set_option maxRecDepth 20000

theorem vec_is0 {a f : Nat} {lon lat : Int} {high x y z : Nat} (h : VecIs a f lon lat high x y z 0) : okG a f = true ∧ lat ≤ 90000000000 ∧ -90000000000 ≤ lat ∧ btw high cLo cHi = true ∧
    x = fmul (vecD a f lat high) (can (cosP lon)) ∧ y = fmul (vecD a f lat high) (can (sinP lon)) ∧ z = vecZ a f lat high := by
  generalize hk : (0 : Int) = k at h
  cases h with
  | shape h => exact absurd hk (by decide)
  | range1 h h1 => exact absurd hk (by decide)
  | range2 h h1 h2 => exact absurd hk (by decide)
  | range3 h h1 h2 h3 => exact absurd hk (by decide)
  | ok h h1 h2 h3 => exact ⟨h, h1, h2, h3, rfl, rfl, rfl⟩
theorem apart_small {p q : Int} (h1 : -5 ≤ p - q) (h2 : p - q ≤ 5) : apartP p q = p - q := by
  unfold apartP signP normP
  split <;> omega
def SpAp (la lat n1 lo lon n2 : Int) (args : Array Value) (v : Value) : Prop := (args = #[.int .i64 la, .int .i64 lat] ∧ v = .int .i64 n1) ∨ (args = #[.int .i64 lo, .int .i64 lon] ∧ v = .int .i64 n2)
theorem spAp_a {la lat n1 lo lon n2 : Int} (h : la = lo → lat = lon → n1 = n2) (v : Value) : SpAp la lat n1 lo lon n2 #[.int .i64 la, .int .i64 lat] v ↔ v = .int .i64 n1 := by
  unfold SpAp
  constructor
  · rintro (⟨_, h2⟩ | ⟨h1, h2⟩)
    · exact h2
    · simp at h1
      rw [h h1.1 h1.2]; exact h2
  · exact fun h => .inl ⟨rfl, h⟩
theorem spAp_o {la lat n1 lo lon n2 : Int} (h : la = lo → lat = lon → n1 = n2) (v : Value) : SpAp la lat n1 lo lon n2 #[.int .i64 lo, .int .i64 lon] v ↔ v = .int .i64 n2 := by
  unfold SpAp
  constructor
  · rintro (⟨h1, h2⟩ | ⟨_, h2⟩)
    · simp at h1
      rw [← h h1.1.symm h1.2.symm]; exact h2
    · exact h2
  · exact fun h => .inr ⟨rfl, h⟩
/-- all that the walk is told -/
structure Told (a f : Nat) (lon lat : Int) (high : Nat) (X Y Z : Nat) (lo la : Int) (H : Nat) (n1 n2 : Int) (c : Nat) : Prop where
  vec : ∀ w, Calls Tryd.prog 7 #[globeV a f, placeV lon lat, .float .f64 high] w (ExR (.tuple #[vecV X Y Z, .nilIface]) w)
  pla : ∀ w, Calls Tryd.prog 8 #[globeV a f, vecV X Y Z] w (ExR (.tuple #[placeV lo la, .float .f64 H, .nilIface]) w)
  ala : ∀ w, Calls Tryd.prog 9 #[.int .i64 la, .int .i64 lat] w (ExR (.int .i64 n1) w)
  alo : ∀ w, Calls Tryd.prog 9 #[.int .i64 lo, .int .i64 lon] w (ExR (.int .i64 n2) w)
  cos : ∀ w, Calls Tryd.prog 10 #[.int .i64 lat] w (ExR (.float .f64 c) w)
  n15 : n1 ≤ 5
  same : la = lo → lat = lon → n1 = n2
  mul : ∀ r, can r = fmul (can (floatOfInt .f64 n2)) (can c) → (FloatKind.f64.format.order r five == some .lt || FloatKind.f64.format.order r five == some .eq) = true
  wit : ∀ r, can r = fsub (can H) (can high) → ∀ w, Calls Tryd.prog 11 #[.float .f64 r, .float .f64 c01] w (ExR (.bool true) w)
theorem told_some {a f : Nat} (lon : Int) {lat : Int} {high : Nat} (s : Snd a f high) (h1 : -89000000000 ≤ lat) (h2 : lat ≤ 89000000000) : ∃ X Y Z lo la H n1 n2 c, Told a f lon lat high X Y Z lo la H n1 n2 c := by
  obtain ⟨X, Y, Z, v, fx, fy, fz, o1, o2, l1, l2, t1, t2, fh, eh⟩ := back_all s lon h1 h2
  obtain ⟨ok, k1, k2, k3, eX, eY, eZ⟩ := vec_is0 v
  have u1 : uu = 1 / 9007199254740992 := uu_eq
  have hlat := trig_lat (a := lat) (by omega) (by omega)
  refine ⟨X, Y, Z, angS (can Y) (can X), iterT a f Z (rootP X Y) 8, highP a f Z (rootP X Y) (iterT a f Z (rootP X Y) 8), _, _, cosP lat, ⟨fun w => ?_, fun w => ?_, apart_c _ _, apart_c _ _, cosine_c lat, ?_, fun e1 e2 => by rw [e1, e2], ?_, ?_⟩⟩
  · refine (vec_ok0 (A := fun _ => ⟨0, 0, none⟩) a f lon lat high w ok k1 k2 k3).mono ?_
    rw [← eX, ← eY, ← eZ]
    rintro e w' ⟨x, y, z, v, rfl, hx, hy, hz, hv, hw⟩
    cases hv
    obtain rfl := eq_of_can fx hx
    obtain rfl := eq_of_can fy hy
    obtain rfl := eq_of_can fz hz
    exact ⟨rfl, hw⟩
  · refine (place_ok0 (A := fun _ => ⟨0, 0, none⟩) a f X Y Z w ok o1 o2).mono ?_
    rintro e w' ⟨h, v, rfl, hh, hv, hw⟩
    cases hv
    obtain rfl := eq_of_can fh hh
    exact ⟨rfl, hw⟩
  · rw [apart_small (p := iterT a f Z (rootP X Y) 8) (q := lat) (by omega) (by omega)]
    split <;> omega
  · obtain ⟨n, hn⟩ : ∃ n, n = (if apartP (angS (can Y) (can X)) lon < 0 then -apartP (angS (can Y) (can X)) lon else apartP (angS (can Y) (can X)) lon) := ⟨_, rfl⟩
    rw [← hn]
    have n0 : 0 ≤ n := by rw [hn]; split <;> omega
    have n1 : n ≤ 1 := by rw [hn]; split <;> omega
    obtain ⟨fi, ei⟩ := vl_int n (by omega)
    obtain ⟨fc, ec⟩ := hlat.2
    intro r hr
    rw [fi.can, fc.can] at hr
    have bc := wn_cI (m := lat) (by omega) (by omega)
    have bvc : Wn (vl (cosP lat)) (1002 / 1000) := (wn_add ec bc).of (by grind) (by grind)
    have bi : Wn (vl (floatOfInt .f64 n)) 1 := by
      rw [ei]
      have a := castle n0
      have b := castle n1
      constructor
      · have : ((0 : Int) : Rat) = 0 := rfl
        grind
      · exact b
    obtain ⟨fm, em⟩ := mulE fi fc _ (wn_mul bi bvc) (by grind)
    obtain rfl := eq_of_can fm hr
    have bm : Wn (vl (fmul (floatOfInt .f64 n) (cosP lat))) 2 := (wn_add em (wn_mul bi bvc)).of (by grind) (by rw [u1]; grind)
    have := (fle_vl fm v_five.1).2 (by rw [v_five.2]; have := bm.2; grind)
    exact this
  · intro r hr w
    rw [fh.can, s.fh.can] at hr
    obtain ⟨fs, es⟩ := subE fh s.fh (4 / 1000) eh (by grind)
    obtain rfl := eq_of_can fs hr
    have bm : Wn (vl (fsub (highP a f Z (rootP X Y) (iterT a f Z (rootP X Y) 8)) high)) (5 / 1000) := (wn_add es eh).of (by grind) (by rw [u1]; grind)
    exact within0_c _ ((fle_vl fs v_01.1).2 (by rw [v_01.2]; have := bm.2; grind)) ((fge_vl fs v_m01.1).2 (by rw [v_m01.2]; have := bm.1; grind)) w
set_option maxHeartbeats 40000000 in
theorem globeBack_in (a f : Nat) (lon lat : Int) (high : Nat) (w : World) (b1 : fge a c1e6 = true) (b2 : fle a c1e7 = true) (b3 : fge f 0 = true) (b4 : fle f c01 = true) (b5 : fge high m1e4 = true) (b6 : fle high c1e6 = true)
    (h1 : -89000000000 ≤ lat) (h2 : lat ≤ 89000000000) : Calls Tryd.prog 3 #[globeV a f, placeV lon lat, .float .f64 high] w (ExR (.bool true) w) := by
  obtain ⟨X, Y, Z, lo, la, H, n1, n2, c, told⟩ := told_some lon (snd_of b1 b2 b3 b4 b5 b6) h1 h2
  have HT := Lib.hid told
  clear told
  have G1 : (FloatKind.f64.format.order a c1e6 == some .gt || FloatKind.f64.format.order a c1e6 == some .eq) = true := b1
  have G2 : (FloatKind.f64.format.order a c1e7 == some .lt || FloatKind.f64.format.order a c1e7 == some .eq) = true := b2
  have G3 : (FloatKind.f64.format.order f 0 == some .gt || FloatKind.f64.format.order f 0 == some .eq) = true := b3
  have G4 : (FloatKind.f64.format.order f c01 == some .lt || FloatKind.f64.format.order f c01 == some .eq) = true := b4
  have G5 : (FloatKind.f64.format.order high m1e4 == some .gt || FloatKind.f64.format.order high m1e4 == some .eq) = true := b5
  have G6 : (FloatKind.f64.format.order high c1e6 == some .lt || FloatKind.f64.format.order high c1e6 == some .eq) = true := b6
  clear b1 b2 b3 b4 b5 b6
  go_enter Tryd.func3, Tryd.ntmps3
  go_wp2_with (first
    | (go_at_call 5; go_must (refine (round0_c _).mono ?_; rintro e w1 ⟨rfl, hx1⟩; obtain ⟨g1, g2, hw⟩ := ext2 hx1; clear hx1; have k1 := g1.cell; have k2 := g2.cell)))
  have hB : Bks w1 [(w.heap.size, 24, #[Value.float .f64 a, Value.float .f64 f]), (w.heap.size + 1, 26, #[Value.int .i64 lon, Value.int .i64 lat])] := ⟨g1, g2, trivial⟩
  clear g1 g2 k1 k2
  have kc := And.intro hB.1.cell hB.2.1.cell
  have kl := And.intro hB.1.lt hB.2.1.lt
  go_cut [10, 11] (fun s1 s2 wx => ∃ (nb : Nat), s1 = .pointer (some ⟨nb, 0, none⟩) ∧ s2 = .nilIface ∧ Ext w wx ∧ Bks wx [(w.heap.size, 24, #[Value.float .f64 a, Value.float .f64 f]), (w.heap.size + 1, 26, #[Value.int .i64 lon, Value.int .i64 lat])] ∧ Blk wx nb 29 #[.float .f64 X, .float .f64 Y, .float .f64 Z])
  case first =>
    have fr1 := Lib.hid hB.fresh
    go_region_held3 (fun w' => w'.cell? ⟨w.heap.size, 0, none⟩ = some (.float .f64 a) ∧ w'.cell? ⟨w.heap.size, 1, none⟩ = some (.float .f64 f) ∧ w'.cell? ⟨w.heap.size + 1, 0, none⟩ = some (.int .i64 lon) ∧ w'.cell? ⟨w.heap.size + 1, 1, none⟩ = some (.int .i64 lat))
      (first | (refine cells2 (Bks.ext hB3 ?_); (repeat (first | exact Ext.refl _ | refine Ext.drew ?_ | refine Ext.alloc ?_ _)); done) | (refine cells2 (Bks.ext hB2 ?_); (repeat (first | exact Ext.refl _ | refine Ext.drew ?_ | refine Ext.alloc ?_ _)); done) | (refine cells2 (Bks.ext hB ?_); (repeat (first | exact Ext.refl _ | refine Ext.drew ?_ | refine Ext.alloc ?_ _)); done) | (exact cells2 (fin_three (hw.trans (hE.trans hF)) hB3 hz fr2.out (hw.trans hE).size).2.1) | (refine cells2 (Bks.ext (fin_three (hw.trans (hE.trans hF)) hB3 hz fr2.out (hw.trans hE).size).2.1 ?_); exact Ext.drew (Ext.refl _)) | (exact cells2 (fin_three (hw.trans (hE.trans hF)) hB3 hz fr1.out hw.size).2.1) | (refine cells2 (Bks.ext (fin_three (hw.trans (hE.trans hF)) hB3 hz fr1.out hw.size).2.1 ?_); exact Ext.drew (Ext.refl _)))
      (first
      | (go_at_call 6; refine (ball_c a f _).mono ?_; rintro e w2 ⟨rfl, hx⟩; have hE : Ext w1 w2 := (by first | exact (ext1 hx.of_drew).2 | exact hx.of_drew | exact bareN hx rfl rfl rfl rfl); (first | (have hz := (ext1 hx.of_drew).1) | skip); clear kc kl; have hB2 := hB.ext hE; have fr2 := Lib.hid hB2.fresh; have kc := And.intro hB2.1.cell hB2.2.1.cell; have kl := And.intro hB2.1.lt hB2.2.1.lt)
      | (go_at_call 7; refine (HT.out.vec _).mono ?_; rintro e w3 ⟨rfl, hx'⟩; have hF : Ext w2 w3 := (by first | exact bareN hx' rfl rfl rfl rfl | exact bareN (ext1 hx').2 rfl rfl rfl rfl); (first | (have hz := (ext1 hx').1) | (replace hz := hz.ext hF) | skip); have hB3 := hB2.ext hF; clear kc; (first | (have cZ := hz.cell; have fZ := hz.frozen) | skip)))
    all_goals
      have hL3 : Ext w w3 := (hw.trans hE).trans hF
      have s1 : w.heap.size ≤ w1.heap.size := hw.size
      have s2 : w.heap.size ≤ w2.heap.size := (hw.trans hE).size
      (try go_wp2_with fail)
      go_meet
      first
        | exact ⟨w3.heap.size, rfl, rfl, fin_new hL3 hB3⟩
        | exact ⟨w2.heap.size, rfl, rfl, fin_three hL3 hB3 hz fr2.out s2⟩
        | exact ⟨w1.heap.size, rfl, rfl, fin_three hL3 hB3 hz fr1.out s1⟩
  case rest =>
    clear hB hw kc kl
    obtain ⟨nb, rfl, rfl, hw, hBb, hP⟩ := hcut
    have hB : Bks wc [(w.heap.size, 24, #[Value.float .f64 a, Value.float .f64 f]), (w.heap.size + 1, 26, #[Value.int .i64 lon, Value.int .i64 lat]), (nb, 29, #[Value.float .f64 X, Value.float .f64 Y, Value.float .f64 Z])] := ⟨hBb.1, hBb.2.1, hP, trivial⟩
    clear hBb hP
    have kc := And.intro hB.1.cell (And.intro hB.2.1.cell hB.2.2.1.cell)
    have kl := And.intro hB.1.lt (And.intro hB.2.1.lt hB.2.2.1.lt)
    go_wp2_with fail
    go_cut [11, 12, 13] (fun s1 s2 s3 wx => ∃ (nq : Nat), s1 = .nilIface ∧ s2 = .pointer (some ⟨nq, 0, none⟩) ∧ s3 = .float .f64 H ∧ Ext w wx ∧ Bks wx [(w.heap.size, 24, #[Value.float .f64 a, Value.float .f64 f]), (w.heap.size + 1, 26, #[Value.int .i64 lon, Value.int .i64 lat]), (nb, 29, #[Value.float .f64 X, Value.float .f64 Y, Value.float .f64 Z])] ∧ Blk wx nq 26 #[.int .i64 lo, .int .i64 la])
    case first =>
      have fr1 := Lib.hid hB.fresh
      go_region_held3 (fun w' => w'.cell? ⟨w.heap.size, 0, none⟩ = some (.float .f64 a) ∧ w'.cell? ⟨w.heap.size, 1, none⟩ = some (.float .f64 f) ∧ w'.cell? ⟨nb, 0, none⟩ = some (.float .f64 X) ∧ w'.cell? ⟨nb, 1, none⟩ = some (.float .f64 Y) ∧ w'.cell? ⟨nb, 2, none⟩ = some (.float .f64 Z))
        (first | (refine cellsV (Bks.ext hB3 ?_); (repeat (first | exact Ext.refl _ | refine Ext.drew ?_ | refine Ext.alloc ?_ _)); done) | (refine cellsV (Bks.ext hB2 ?_); (repeat (first | exact Ext.refl _ | refine Ext.drew ?_ | refine Ext.alloc ?_ _)); done) | (refine cellsV (Bks.ext hB ?_); (repeat (first | exact Ext.refl _ | refine Ext.drew ?_ | refine Ext.alloc ?_ _)); done) | (exact cellsV (fin_two (hw.trans (hE.trans hF)) hB3 hz fr2.out (hw.trans hE).size).2.1) | (refine cellsV (Bks.ext (fin_two (hw.trans (hE.trans hF)) hB3 hz fr2.out (hw.trans hE).size).2.1 ?_); exact Ext.drew (Ext.refl _)) | (exact cellsV (fin_two (hw.trans (hE.trans hF)) hB3 hz fr1.out hw.size).2.1) | (refine cellsV (Bks.ext (fin_two (hw.trans (hE.trans hF)) hB3 hz fr1.out hw.size).2.1 ?_); exact Ext.drew (Ext.refl _)))
        (first
        | (go_at_call 6; refine (ball_c a f _).mono ?_; rintro e w2 ⟨rfl, hx⟩; have hE : Ext wc w2 := (by first | exact (ext1 hx.of_drew).2 | exact hx.of_drew | exact bareN hx rfl rfl rfl rfl); (first | (have hz := (ext1 hx.of_drew).1) | skip); clear kc kl; have hB2 := hB.ext hE; have fr2 := Lib.hid hB2.fresh; have kc := And.intro hB2.1.cell (And.intro hB2.2.1.cell hB2.2.2.1.cell); have kl := And.intro hB2.1.lt (And.intro hB2.2.1.lt hB2.2.2.1.lt))
        | (go_at_call 8; refine (HT.out.pla _).mono ?_; rintro e w3 ⟨rfl, hx'⟩; have hF : Ext w2 w3 := (by first | exact bareN hx' rfl rfl rfl rfl | exact bareN (ext1 hx').2 rfl rfl rfl rfl); (first | (have hz := (ext1 hx').1) | (replace hz := hz.ext hF) | skip); have hB3 := hB2.ext hF; clear kc; (first | (have cZ := hz.cell; have fZ := hz.frozen) | skip)))
      all_goals
        have hL3 : Ext w w3 := (hw.trans hE).trans hF
        have s1 : w.heap.size ≤ wc.heap.size := hw.size
        have s2 : w.heap.size ≤ w2.heap.size := (hw.trans hE).size
        (try go_wp2_with fail)
        go_meet
        first
          | exact ⟨w3.heap.size, rfl, rfl, rfl, fin_new hL3 hB3⟩
          | exact ⟨w2.heap.size, rfl, rfl, rfl, fin_two hL3 hB3 hz fr2.out s2⟩
          | exact ⟨wc.heap.size, rfl, rfl, rfl, fin_two hL3 hB3 hz fr1.out s1⟩
    case rest =>
      clear hB hw kc kl
      obtain ⟨nq, rfl, rfl, rfl, hw, hB, hQ⟩ := hcut
      go_wp2_with fail
      have n15 := HT.out.n15
      have HS := Lib.hid HT.out.same
      have tk1 : Hid True := trivial
      refine wp_region_all (fun g args v => (g = 9 ∧ SpAp la lat n1 lo lon n2 args v) ∨ (g = 10 ∧ args = #[.int .i64 lat] ∧ v = .float .f64 c) ∨ (g = 11 ∧ v = .bool true)) (by kernel_rfl) (by kernel_rfl) ?_
      repeat (first
        | (refine wpR_op rfl (fun w9 hw9 K hK => ?_); go_simp; (with_reducible refine hK _ ?_); clear hK K hw9 w9)
        | (refine wpR_want rfl (fun w9 hw9 K hK => ?_); have k1 := (hB.2.1.ext hw9.of_drew).cell; have k2 := (hQ.ext hw9.of_drew).cell; go_simp; (with_reducible refine hK _ ?_); clear hK K k1 k2 hw9 w9)
        | (refine wpR_want rfl (fun w9 hw9 K hK => ?_); go_simp; (with_reducible refine rel_fl rfl ?_); intro r hr; (first | have hq := HT.out.mul r hr | have hq := Lib.hid (HT.out.wit r hr)); (with_reducible refine hK _ ?_); clear hK K hw9 w9)
        | (refine wpR_want rfl (fun w9 hw9 K hK => ?_); clear tk1; go_simp; (with_reducible refine rel_call (ExR.call (HT.out.ala _)) (fun v => ?_) (fun v hv => ?_)); (simp [spAp_a HS.out]); subst hv; refine hK _ ?_; clear hK K hw9 w9)
        | (refine wpR_want rfl (fun w9 hw9 K hK => ?_); go_simp; (with_reducible refine rel_call (ExR.call (HT.out.alo _)) (fun v => ?_) (fun v hv => ?_)); (simp [spAp_o HS.out]); subst hv; refine hK _ ?_; clear hK K hw9 w9)
        | (refine wpR_want rfl (fun w9 hw9 K hK => ?_); go_simp; (with_reducible refine rel_call (ExR.call (HT.out.cos _)) (fun v => ?_) (fun v hv => ?_)); (simp); subst hv; refine hK _ ?_; clear hK K hw9 w9)
        | (refine wpR_want rfl (fun w9 hw9 K hK => ?_); go_simp; (with_reducible refine rel_call (ExR.call (hq.out _)) (fun v => ?_) (fun v hv => ?_)); (simp); subst hv; refine hK _ ?_; clear hK K hw9 w9))
      refine wpR_nil ?_
      intro w8 hx8 _
      replace hw := hw.trans hx8.of_drew
      clear hx8 hB hQ
      go_wp2_with fail
      go_ret
      exact ⟨rfl, hw⟩
end Go.Proofs.YteebbcdbkkliaaaDoor
