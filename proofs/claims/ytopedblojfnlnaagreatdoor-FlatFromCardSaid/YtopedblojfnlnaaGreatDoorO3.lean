/- The walk of the statement FlatFrom. -/
import Derived.Test.YtopedblojfnlnaaGreatDoorO2
import Derived.Test.YtopedblojfnlnaaGreatDoorBK
namespace Go.Proofs.YtopedblojfnlnaaGreatDoor
open Go.RowKit Go.Fp Go.Rel
set_option maxRecDepth 20000

/-- the cells of a paper and of a point -/
theorem cellsF {w' : World} {n a f sc : Nat} {s : ByteArray} {mid : Int} {x y : Nat} {tG tP : TypeId} (h : Bks w' [(n, tG, #[Value.float .f64 a, Value.float .f64 f, Value.string s, Value.int .i64 mid, Value.float .f64 sc]), (n + 1, tP, #[Value.float .f64 x, Value.float .f64 y])]) :
    w'.cell? ⟨n, 0, none⟩ = some (.float .f64 a) ∧ w'.cell? ⟨n, 1, none⟩ = some (.float .f64 f) ∧ w'.cell? ⟨n, 2, none⟩ = some (.string s) ∧ w'.cell? ⟨n, 3, none⟩ = some (.int .i64 mid) ∧ w'.cell? ⟨n, 4, none⟩ = some (.float .f64 sc) ∧ w'.cell? ⟨n + 1, 0, none⟩ = some (.float .f64 x) ∧ w'.cell? ⟨n + 1, 1, none⟩ = some (.float .f64 y) :=
  ⟨h.1.cell 0, h.1.cell 1, h.1.cell 2, h.1.cell 3, h.1.cell 4, h.2.1.cell 0, h.2.1.cell 1⟩
set_option maxHeartbeats 8000000 in
theorem flatFrom_walk {A : Nat → Addr} (a f : Nat) (s : ByteArray) (mid : Int) (sc x y : Nat) (lat : Int) (w : World) (h8 : World8 A w) : Calls Tryz.prog 5 #[paperV a f s mid sc, flatV x y, .int .i64 lat] w (ExR (.bool true) w) := by
  obtain ⟨n, hK⟩ := kind_some s
  obtain ⟨K, lon, lt, hok, hT, hO⟩ := from_off hK a f mid sc x y
  have HT := Lib.hid (fun w h => hT A w h)
  have HO := Lib.hid hO
  have H8 := Lib.hid h8
  obtain ⟨r, hr⟩ := lat_some (isoP f) (fbin BinOp.quo (can y) (can 4696837146684686336)) _ (-89000000000) 89000000001 (Nat.le_refl _)
  have HG0 := fun w => globeError_c a f w
  generalize okG a f = g at HG0
  have HL : Hid (∀ x', can x' = fbin BinOp.quo (can y) (can 4696837146684686336) → ∀ w, Calls Tryz.prog 28 #[globeV a f, .float .f64 x'] w (ExR (.int .i64 r) w)) := Lib.hid (fun x' h w => lat_c a f x' r w (by rw [h]; exact hr))
  have HL2 : Hid (∀ x', can x' = fbin BinOp.quo (can y) (can 4696837146684686336) → ∀ w, Calls Tryz.prog 29 #[globeV a f, .float .f64 x'] w (ExR (.int .i64 r) w)) := Lib.hid (fun x' h w => latOf_c a f x' r w (by rw [h]; exact hr))
  clear hK hT hO h8 hok hr
  go_enter Tryz.func5, Tryz.ntmps5
  go_wp2_with (first
    | (go_at_call 20; go_must (refine (drawn_c _ (H8.out.ext (by repeat (first | exact Ext.refl _ | refine Ext.alloc ?_ _)))).mono ?_; rintro e w1 ⟨rfl, hx⟩; obtain ⟨hb1, hb2, hw⟩ := ext2 hx; clear hx)))
  have hB : Bks w1 [(w.heap.size, 61, #[Value.float .f64 a, Value.float .f64 f, Value.string s, Value.int .i64 mid, Value.float .f64 sc]), (w.heap.size + 1, 28, #[Value.float .f64 x, Value.float .f64 y])] := ⟨hb1, hb2, trivial⟩
  clear hb1 hb2
  have kc := And.intro hB.1.cell hB.2.1.cell
  have kl := And.intro hB.1.lt hB.2.1.lt
  go_cut [8, 9] (fun s1 s2 wx => ∃ (nb : Nat) (v2 : Value), s1 = .pointer (some ⟨nb, 0, none⟩) ∧ s2 = v2 ∧ ErrOf A K v2 ∧ Ext w wx ∧ Bks wx [(w.heap.size, 61, #[Value.float .f64 a, Value.float .f64 f, Value.string s, Value.int .i64 mid, Value.float .f64 sc]), (w.heap.size + 1, 28, #[Value.float .f64 x, Value.float .f64 y])] ∧ Blk wx nb 31 #[.int .i64 lon, .int .i64 lt])
  case first =>
    have fr1 := Lib.hid hB.fresh
    go_region_held3 (fun w' => w'.cell? ⟨w.heap.size, 0, none⟩ = some (.float .f64 a) ∧ w'.cell? ⟨w.heap.size, 1, none⟩ = some (.float .f64 f) ∧ w'.cell? ⟨w.heap.size, 2, none⟩ = some (.string s) ∧ w'.cell? ⟨w.heap.size, 3, none⟩ = some (.int .i64 mid) ∧ w'.cell? ⟨w.heap.size, 4, none⟩ = some (.float .f64 sc) ∧ w'.cell? ⟨w.heap.size + 1, 0, none⟩ = some (.float .f64 x) ∧ w'.cell? ⟨w.heap.size + 1, 1, none⟩ = some (.float .f64 y))
      (first | (refine cellsF (Bks.ext hB3 ?_); (repeat (first | exact Ext.refl _ | refine Ext.drew ?_ | refine Ext.alloc ?_ _)); done) | (refine cellsF (Bks.ext hB2 ?_); (repeat (first | exact Ext.refl _ | refine Ext.drew ?_ | refine Ext.alloc ?_ _)); done) | (refine cellsF (Bks.ext hB ?_); (repeat (first | exact Ext.refl _ | refine Ext.drew ?_ | refine Ext.alloc ?_ _)); done) | (exact cellsF (fin_two (hw.trans (hE.trans hF)) hB3 hz fr2.out (hw.trans hE).size).2.1) | (refine cellsF (Bks.ext (fin_two (hw.trans (hE.trans hF)) hB3 hz fr2.out (hw.trans hE).size).2.1 ?_); exact Ext.drew (Ext.refl _)) | (exact cellsF (fin_two (hw.trans (hE.trans hF)) hB3 hz fr1.out hw.size).2.1) | (refine cellsF (Bks.ext (fin_two (hw.trans (hE.trans hF)) hB3 hz fr1.out hw.size).2.1 ?_); exact Ext.drew (Ext.refl _)))
      (first
      | (go_at_call 21; refine (paper_c a f s mid sc _).mono ?_; rintro e w2 ⟨rfl, hx⟩; have hE : Ext w1 w2 := (by first | exact (ext1 hx.of_drew).2 | exact hx.of_drew | exact bareN hx rfl rfl rfl rfl); (first | (have hz := (ext1 hx.of_drew).1) | skip); clear kc kl; have hB2 := hB.ext hE; have fr2 := Lib.hid hB2.fresh; have kc := And.intro hB2.1.cell hB2.2.1.cell; have kl := And.intro hB2.1.lt hB2.2.1.lt)
      | (go_at_call 22; ((first | (refine (HT.out w2 (H8.out.ext (hw.trans hE))).mono ?_) | (refine (HT.out _ (H8.out.ext ((hw.trans hE).alloc _))).mono ?_)); rintro e w3 ⟨v2, rfl, hv2, hx'⟩; have hF : Ext w2 w3 := (by first | exact bareN hx' rfl rfl rfl rfl | exact bareN (ext1 hx').2 rfl rfl rfl rfl); (first | (have hz := (ext1 hx').1) | (replace hz := hz.ext hF) | skip); have hB3 := hB2.ext hF; clear kc; (first | (have cZ := hz.cell; have fZ := hz.frozen) | skip))))
    all_goals
      have hL3 : Ext w w3 := (hw.trans hE).trans hF
      have s1 : w.heap.size ≤ w1.heap.size := hw.size
      have s2 : w.heap.size ≤ w2.heap.size := (hw.trans hE).size
      (try go_wp2_with fail)
      go_meet
      first
        | exact ⟨w3.heap.size, _, rfl, rfl, hv2, fin_new hL3 hB3⟩
        | exact ⟨w2.heap.size, _, rfl, rfl, hv2, fin_two hL3 hB3 hz fr2.out s2⟩
        | exact ⟨w1.heap.size, _, rfl, rfl, hv2, fin_two hL3 hB3 hz fr1.out s1⟩
  case rest =>
    clear hB hw kc kl
    obtain ⟨nb, v2, rfl, rfl, hv2, hw, hB, hP⟩ := hcut
    have kc := And.intro hB.1.cell (And.intro hB.2.1.cell hP.cell)
    go_wp2_with (first
      | (go_at_call 23; go_must (refine (HO.out _).mono ?_; rintro e v3a ⟨rfl, hx⟩; clear kc; replace hB := hB.ext (bareN hx rfl rfl rfl rfl); replace hP := hP.ext (bareN hx rfl rfl rfl rfl); replace hw := hw.trans (bareN hx rfl rfl rfl rfl); clear hx; have kc := And.intro hB.1.cell (And.intro hB.2.1.cell hP.cell)))
      | (go_at_call 10; go_must (refine (coded_c (H8.out.ext (by repeat (first | exact hw | refine Ext.alloc ?_ _))) hv2 _).mono ?_; rintro e v3 ⟨rfl, hx⟩; rw [decide_eq_true (rfl : K = K)]; obtain ⟨hQ, hx'⟩ := ext1 hx; clear kc hx; replace hB := hB.ext hx'; replace hP := hP.ext hx'; replace hw := hw.trans hx'; clear hx'; generalize v3a.heap.size = nq at *; have kc := And.intro hB.1.cell (And.intro hB.2.1.cell (And.intro hP.cell hQ.cell)))))
    cases g
    · have HG := Lib.hid HG0
      clear HG0
      go_wp2_with (first
        | (go_at_call 24; go_must (refine (HG.out _).mono ?_; rintro e v4 ⟨rfl, hx⟩; clear kc; replace hB := hB.ext (bareN hx rfl rfl rfl rfl); replace hP := hP.ext (bareN hx rfl rfl rfl rfl); replace hQ := hQ.ext (bareN hx rfl rfl rfl rfl); replace hw := hw.trans (bareN hx rfl rfl rfl rfl); clear hx; have kc := And.intro hB.1.cell (And.intro hB.2.1.cell (And.intro hP.cell hQ.cell)))))
      go_ret
      exact ⟨rfl, hw⟩
    · have HG := Lib.hid HG0
      clear HG0
      have kb := H8
      go_wp2_with (first
        | (go_at_call 24; go_must (refine (HG.out _).mono ?_; rintro e v4 ⟨rfl, hx⟩; clear kc; replace hB := hB.ext (bareN hx rfl rfl rfl rfl); replace hP := hP.ext (bareN hx rfl rfl rfl rfl); replace hQ := hQ.ext (bareN hx rfl rfl rfl rfl); replace hw := hw.trans (bareN hx rfl rfl rfl rfl); clear hx; have kc := And.intro hB.1.cell (And.intro hB.2.1.cell (And.intro hP.cell hQ.cell))))
        | (go_at_call 26; go_must (refine (ball_c a f _).mono ?_; rintro e v4 ⟨rfl, hx⟩; clear kc; replace hB := hB.ext (bareN hx rfl rfl rfl rfl); replace hP := hP.ext (bareN hx rfl rfl rfl rfl); replace hQ := hQ.ext (bareN hx rfl rfl rfl rfl); replace hw := hw.trans (bareN hx rfl rfl rfl rfl); clear hx; have kc := And.intro hB.1.cell (And.intro hB.2.1.cell (And.intro hP.cell hQ.cell))))
        | (go_at_call 25; go_must (refine (iso_c a f lat _).mono ?_; rintro e v4 ⟨i1, rfl, hi1, hx⟩; clear kc; replace hB := hB.ext (bareN hx rfl rfl rfl rfl); replace hP := hP.ext (bareN hx rfl rfl rfl rfl); replace hQ := hQ.ext (bareN hx rfl rfl rfl rfl); replace hw := hw.trans (bareN hx rfl rfl rfl rfl); clear hx; have kc := And.intro hB.1.cell (And.intro hB.2.1.cell (And.intro hP.cell hQ.cell))))
        | (go_at_call 27; go_must (refine (isoOf_c a f lat _).mono ?_; rintro e v4 ⟨i2, rfl, hi2, hx⟩; clear kc; replace hB := hB.ext (bareN hx rfl rfl rfl rfl); replace hP := hP.ext (bareN hx rfl rfl rfl rfl); replace hQ := hQ.ext (bareN hx rfl rfl rfl rfl); replace hw := hw.trans (bareN hx rfl rfl rfl rfl); clear hx; have kc := And.intro hB.1.cell (And.intro hB.2.1.cell (And.intro hP.cell hQ.cell))))
        | (go_at_call 19; go_must (refine (sameBits_c _ _ _ (hi1.trans hi2.symm)).mono ?_; rintro e v4 ⟨rfl, hx⟩; clear kc; replace hB := hB.ext (bareN hx rfl rfl rfl rfl); replace hP := hP.ext (bareN hx rfl rfl rfl rfl); replace hQ := hQ.ext (bareN hx rfl rfl rfl rfl); replace hw := hw.trans (bareN hx rfl rfl rfl rfl); clear hx; have kc := And.intro hB.1.cell (And.intro hB.2.1.cell (And.intro hP.cell hQ.cell)))))
      · go_ret
        exact ⟨rfl, hw⟩
      · refine wp_region_all (fun g args v => (g = 26 ∧ v = globeV a f) ∨ (g = 28 ∧ v = .int .i64 r) ∨ (g = 29 ∧ v = .int .i64 r)) (by kernel_rfl) (by kernel_rfl) ?_
        repeat (first
          | (refine wpR_want rfl (fun w9 hw9 K hK => ?_); have kb := hB.ext (bareN hw9 rfl rfl rfl rfl); have kd := And.intro kb.1.cell kb.2.1.cell; clear kb; go_simp; refine hK _ ?_; clear hK K kd hw9 w9)
          | (refine wpR_want rfl (fun w9 hw9 K hK => ?_); go_simp; refine rel_call (ExR.call (ball_c a f _)) (fun v => ?_) (fun v hv => ?_); (simp); subst hv; refine hK _ ?_; clear hK K hw9 w9)
          | (refine wpR_want rfl (fun w9 hw9 K hK => ?_); go_simp; refine rel_fl rfl ?_; intro rx hrx; refine hK _ ?_; clear hK K hw9 w9)
          | (refine wpR_want rfl (fun w9 hw9 K hK => ?_); go_simp; refine rel_call (ExR.call (HL.out _ (by assumption) _)) (fun v => ?_) (fun v hv => ?_); (simp); subst hv; refine hK _ ?_; clear hK K hw9 w9)
          | (refine wpR_want rfl (fun w9 hw9 K hK => ?_); go_simp; refine rel_call (ExR.call (HL2.out _ (by assumption) _)) (fun v => ?_) (fun v hv => ?_); (simp); subst hv; refine hK _ ?_; clear hK K hw9 w9))
        refine wpR_nil ?_
        intro w7 hx7 _
        replace hw := hw.trans (bareN hx7 rfl rfl rfl rfl)
        go_wp2_with fail
        go_ret
        exact ⟨rfl, hw⟩
end Go.Proofs.YtopedblojfnlnaaGreatDoor
