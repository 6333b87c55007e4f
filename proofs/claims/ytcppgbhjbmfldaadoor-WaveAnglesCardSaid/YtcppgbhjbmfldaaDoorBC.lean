/- Walks: strips, with no error in sight. Printed by gen_wavegood.py. -/
import Derived.Test.YtcppgbhjbmfldaaDoorHL
import Derived.Test.YtcppgbhjbmfldaaDoorZV
namespace Go.Proofs.YtcppgbhjbmfldaaDoor
open Go.RowKit Go.Fp Go.Rel
set_option maxRecDepth 20000
/-- of a world nothing is asked -/
structure W0 (A : Nat → Addr) (w : World) : Prop where
theorem W0.ext {A : Nat → Addr} {w w' : World} (_ : W0 A w) (_ : Ext w w') : W0 A w' := {}
theorem btw_trueZ {x lo hi : Nat} (h : btw x lo hi = true) : (FloatKind.f64.format.order x lo == some .gt || FloatKind.f64.format.order x lo == some .eq) = true ∧ (FloatKind.f64.format.order x hi == some .lt || FloatKind.f64.format.order x hi == some .eq) = true := by
  have e : FloatKind.f64.format = D := rfl
  rw [e]
  unfold btw fge fle at h
  rwa [Bool.and_eq_true] at h
set_option maxHeartbeats 4000000 in
theorem gvalid0_c (a f : Nat) (h : okG a f = true) (w : World) : Calls Tryd.prog 27 #[globeV a f] w (ExR .nilIface w) := by
  unfold okG at h
  rw [Bool.and_eq_true] at h
  obtain ⟨h1, h2⟩ := h
  obtain ⟨o1, o2⟩ := btw_trueZ h1
  obtain ⟨o3, o4⟩ := btw_trueZ h2
  clear h1 h2
  go_enter Tryd.func27, Tryd.ntmps27
  go_wp2_with fail
  all_goals go_ret
  all_goals exact ⟨rfl, (Ext.refl w).alloc _⟩
theorem gvalid_ok0 {A : Nat → Addr} (a f : Nat) (hg : okG a f = true) (w : World) (_ : W0 A w) : Calls Tryd.prog 27 #[globeV a f] w (ExR .nilIface w) := gvalid0_c a f hg w
set_option maxHeartbeats 4000000 in
theorem svalid_ok0 {A : Nat → Addr} (a f : Nat) (mid : Int) (sc : Nat) (hk : strP (okG a f) sc = 0) (w : World) (_ : W0 A w) : Calls Tryd.prog 61 #[stripV a f mid sc] w (ExR .nilIface w) := by
  obtain ⟨hg, hb⟩ := strP_ok hk
  obtain ⟨o1, o2⟩ := btw_trueZ hb
  have HV := Lib.hid (gvalid0_c a f hg)
  clear hk hg hb
  go_enter Tryd.func61, Tryd.ntmps61
  go_wp2_with (first
    | (go_at_call 27; go_must (refine (HV.out _).mono ?_; rintro e w1 ⟨rfl, hx⟩; obtain ⟨hb1, hw⟩ := ext1 hx; have c1 := hb1.cell; clear hx)))
  all_goals go_ret
  all_goals exact ⟨rfl, hw⟩
set_option maxHeartbeats 40000000 in
theorem series_ok0 {A : Nat → Addr} (a f : Nat) (w : World) (h8 : W0 A w) (hg : okG a f = true) :
    Calls Tryd.prog 48 #[globeV a f] w (SerR a f w) := by
  have HV := Lib.hid (fun w h => gvalid_ok0 (A := A) a f hg w h)
  go_enter Tryd.func48, Tryd.ntmps48
  go_wp2_with (first
    | (go_at_call 27; go_must (refine (HV.out _ (h8.ext ((((Ext.refl w).alloc _).alloc _).alloc _))).mono ?_; rintro e w1 ⟨rfl, hx⟩; obtain ⟨hb1, hb2, hb3, hw⟩ := ext3 hx; clear hx; have k1 : ∀ o i, (w1.alloc o).cell? ⟨w.heap.size, i, none⟩ = #[Value.float .f64 a, Value.float .f64 f][i]? := (fun o i => (hb1.ext ((Ext.refl w1).alloc o)).cell i); have k0 := hb1.cell))
    | (with_reducible refine upon_fl rfl ?_; intro r n hr))
  rename_i q1 m1 g1 q2 m2 g2 q3 m3 g3 q4 m4 g4 q5 m5 g5 q6 m6 g6 q7 m7 g7 q8 m8 g8 q9 m9 g9 q10 m10 g10 q11 m11 g11 KK hKK
  generalize hN : m1 + m2 + m3 + m4 + m5 + m6 + m7 + m8 + m9 + m10 + m11 + n = nn at *
  have hp0 : Blk (w1.alloc (.cells #[.float .f64 q2] tF)) w1.heap.size tF #[.float .f64 q2] := Blk.new _ _ _
  have G := Lib.hid (And.intro g1 (And.intro g2 (And.intro g3 (And.intro g4 (And.intro g5 (And.intro g6 (And.intro g7 (And.intro g8 (And.intro g9 (And.intro g10 (And.intro g11 hr)))))))))))
  clear g1 g2 g3 g4 g5 g6 g7 g8 g9 g10 g11 hr hN k0 k1
  refine wp_region_told 18 (fun g args v => g = 65 ∧ SpPoly (can q2) tabA args v) (SlR (w1.heap.size + 1) tF (fun n => fls (tabA n))) (told_slR _ _ _) (by kernel_rfl) (by kernel_rfl) (told_all ((told_slR _ _ _).undef _) ?_) ?_
  · simp [go_sem]
  repeat (first
    | (refine wpD_op rfl (fun w2 hx hn K hK => ?_); have k2 := (hp0.ext (bareN hx rfl rfl rfl rfl)).cell; go_simp; refine hK _ ?_; clear hK K k2 hx hn w2)
    | (refine wpD_op rfl (fun w2 hx hn K hK => ?_); go_simp; refine relD_fl rfl (fun y hy => ?_) (fun _ _ => trivial); refine hK _ ?_; clear hK K hx hn w2)
    | (refine wpD_op rfl (fun w2 hx hn K hK => ?_); have hsz : w1.heap.size + 1 ≤ w2.heap.size := (by have := hx.size; simpa using this); go_simp; refine ⟨(Ext.refl _).alloc _, fun _ => Blk.new _ _ _, ?_⟩; generalize w2.heap.size = nb at *; refine hK _ ?_; clear hK K hx hn w2)
    | (refine wpD_op rfl (fun w2 hx hn K hK => ?_); have q := (show _ → Blk w2 _ tF (fls (tabA 4)) from hn 49 (by decide)) (by assumption); go_simp; have hq := poly_c q2 (tabA 4) _ 4 w1.heap.size tF w2 q (by decide) (by decide) (hp0.ext (bareN hx rfl rfl rfl rfl)); refine relD_call (FlR.call hq) (fun v => ⟨fun h => ⟨rfl, (spPoly_iff _ _ _ _ _ _ _).2 h⟩, fun h => (spPoly_iff _ _ _ _ _ _ _).1 h.2⟩) (fun v w hv => (by obtain ⟨_, rfl, _⟩ := hv; trivial)) (fun v hv => ?_); clear hq q; obtain ⟨pa1, rfl, hpa1⟩ := hv; refine hK _ ?_; clear hK K hx hn w2)
    | (refine wpD_op rfl (fun w2 hx hn K hK => ?_); have q := (show _ → Blk w2 _ tF (fls (tabA 3)) from hn 54 (by decide)) (by assumption); go_simp; have hq := poly_c q2 (tabA 3) _ 3 w1.heap.size tF w2 q (by decide) (by decide) (hp0.ext (bareN hx rfl rfl rfl rfl)); refine relD_call (FlR.call hq) (fun v => ⟨fun h => ⟨rfl, (spPoly_iff _ _ _ _ _ _ _).2 h⟩, fun h => (spPoly_iff _ _ _ _ _ _ _).1 h.2⟩) (fun v w hv => (by obtain ⟨_, rfl, _⟩ := hv; trivial)) (fun v hv => ?_); clear hq q; obtain ⟨pa2, rfl, hpa2⟩ := hv; refine hK _ ?_; clear hK K hx hn w2)
    | (refine wpD_op rfl (fun w2 hx hn K hK => ?_); have q := (show _ → Blk w2 _ tF (fls (tabA 2)) from hn 59 (by decide)) (by assumption); go_simp; have hq := poly_c q2 (tabA 2) _ 2 w1.heap.size tF w2 q (by decide) (by decide) (hp0.ext (bareN hx rfl rfl rfl rfl)); refine relD_call (FlR.call hq) (fun v => ⟨fun h => ⟨rfl, (spPoly_iff _ _ _ _ _ _ _).2 h⟩, fun h => (spPoly_iff _ _ _ _ _ _ _).1 h.2⟩) (fun v w hv => (by obtain ⟨_, rfl, _⟩ := hv; trivial)) (fun v hv => ?_); clear hq q; obtain ⟨pa3, rfl, hpa3⟩ := hv; refine hK _ ?_; clear hK K hx hn w2))
  refine wpD_nil ?_
  intro w3 hx3 hR3
  rename_i nb1 hs1 y1 hy1 nb2 hs2 y2 hy2 y3 hy3
  have l1 := (show _ → Blk w3 nb1 tF (fls (tabA 4)) from hR3 49) hs1
  have l2 := (show _ → Blk w3 nb2 tF (fls (tabA 3)) from hR3 54) hs2
  have l3 := (show _ → Blk w3 nb tF (fls (tabA 2)) from hR3 59) hsz
  clear hR3
  have e1 : Ext (w1.alloc (.cells #[.float .f64 q2] tF)) w3 := bareN hx3 rfl rfl rfl rfl
  have e0 : Ext w1 w3 := ((Ext.refl w1).alloc _).trans e1
  have z2 := hb2.lt
  have z3 := hb3.lt
  have z0 := hw.size
  replace hp0 := hp0.ext e1
  replace hb2 := hb2.ext e0
  replace hb3 := hb3.ext e0
  replace hw := hw.trans e0
  clear hx3 hb1 e1 e0
  refine wpList_own rfl 88 _ _ rfl _ _ rfl rfl _ _ hb2 (by kernel_rfl) rfl (by simp [Value.oneCell']) ?_
  intro u bn en sn
  replace l1 := l1.same sn (by omega)
  replace l2 := l2.same sn (by omega)
  replace l3 := l3.same sn (by omega)
  replace hp0 := hp0.same sn (by omega)
  replace hb3 := hb3.same sn (by omega)
  replace hw := en w hw (by omega)
  have t1 := l1.lt
  have t2 := l2.lt
  have t3 := l3.lt
  clear en sn hb2 l1 l2 l3
  have GA := Lib.hid (And.intro hy1 (And.intro hpa1 (And.intro hy2 (And.intro hpa2 (And.intro hy3 (And.intro hpa3 hy))))))
  clear hy1 hpa1 hy2 hpa2 hy3 hpa3 hy
  generalize y = y4 at *
  go_wp2_with fail
  refine wp_region_told 18 (fun g args v => g = 65 ∧ SpPoly (can q2) tabB args v) (SlR (u.heap.size) tF (fun n => fls (tabB n))) (told_slR _ _ _) (by kernel_rfl) (by kernel_rfl) (told_all ((told_slR _ _ _).undef _) ?_) ?_
  · simp [go_sem, slR_slice]
    exact ⟨fun h => absurd h (by omega), fun h => absurd h (by omega), fun h => absurd h (by omega)⟩
  repeat (first
    | (refine wpD_op rfl (fun w2 hx hn K hK => ?_); have k2 := (hp0.ext (bareN hx rfl rfl rfl rfl)).cell; go_simp; refine hK _ ?_; clear hK K k2 hx hn w2)
    | (refine wpD_op rfl (fun w2 hx hn K hK => ?_); go_simp; refine relD_fl rfl (fun y hy => ?_) (fun _ _ => trivial); refine hK _ ?_; clear hK K hx hn w2)
    | (refine wpD_op rfl (fun w2 hx hn K hK => ?_); have hsz : u.heap.size ≤ w2.heap.size := (by have := hx.size; simpa using this); go_simp; refine ⟨(Ext.refl _).alloc _, fun _ => Blk.new _ _ _, ?_⟩; generalize w2.heap.size = nb at *; refine hK _ ?_; clear hK K hx hn w2)
    | (refine wpD_op rfl (fun w2 hx hn K hK => ?_); have q := (show _ → Blk w2 _ tF (fls (tabB 4)) from hn 67 (by decide)) (by assumption); go_simp; have hq := poly_c q2 (tabB 4) _ 4 w1.heap.size tF w2 q (by decide) (by decide) (hp0.ext (bareN hx rfl rfl rfl rfl)); refine relD_call (FlR.call hq) (fun v => ⟨fun h => ⟨rfl, (spPoly_iff _ _ _ _ _ _ _).2 h⟩, fun h => (spPoly_iff _ _ _ _ _ _ _).1 h.2⟩) (fun v w hv => (by obtain ⟨_, rfl, _⟩ := hv; trivial)) (fun v hv => ?_); clear hq q; obtain ⟨pb1, rfl, hpb1⟩ := hv; refine hK _ ?_; clear hK K hx hn w2)
    | (refine wpD_op rfl (fun w2 hx hn K hK => ?_); have q := (show _ → Blk w2 _ tF (fls (tabB 3)) from hn 72 (by decide)) (by assumption); go_simp; have hq := poly_c q2 (tabB 3) _ 3 w1.heap.size tF w2 q (by decide) (by decide) (hp0.ext (bareN hx rfl rfl rfl rfl)); refine relD_call (FlR.call hq) (fun v => ⟨fun h => ⟨rfl, (spPoly_iff _ _ _ _ _ _ _).2 h⟩, fun h => (spPoly_iff _ _ _ _ _ _ _).1 h.2⟩) (fun v w hv => (by obtain ⟨_, rfl, _⟩ := hv; trivial)) (fun v hv => ?_); clear hq q; obtain ⟨pb2, rfl, hpb2⟩ := hv; refine hK _ ?_; clear hK K hx hn w2)
    | (refine wpD_op rfl (fun w2 hx hn K hK => ?_); have q := (show _ → Blk w2 _ tF (fls (tabB 2)) from hn 77 (by decide)) (by assumption); go_simp; have hq := poly_c q2 (tabB 2) _ 2 w1.heap.size tF w2 q (by decide) (by decide) (hp0.ext (bareN hx rfl rfl rfl rfl)); refine relD_call (FlR.call hq) (fun v => ⟨fun h => ⟨rfl, (spPoly_iff _ _ _ _ _ _ _).2 h⟩, fun h => (spPoly_iff _ _ _ _ _ _ _).1 h.2⟩) (fun v w hv => (by obtain ⟨_, rfl, _⟩ := hv; trivial)) (fun v hv => ?_); clear hq q; obtain ⟨pb3, rfl, hpb3⟩ := hv; refine hK _ ?_; clear hK K hx hn w2))
  refine wpD_nil ?_
  intro w4 hx4 hR4
  clear hR4
  rename_i nc1 hc1 x1 hx1 nc2 hc2 x2 hx2 x3 hx3
  have GB := Lib.hid (And.intro hx1 (And.intro hpb1 (And.intro hx2 (And.intro hpb2 (And.intro hx3 (And.intro hpb3 hy))))))
  clear hx1 hpb1 hx2 hpb2 hx3 hpb3 hy t1 t2 t3 hc1 hc2 hp0 hs1 hs2 hsz
  generalize y = x4 at *
  have e1 : Ext u w4 := bareN hx4 rfl rfl rfl rfl
  replace bn := bn.ext e1
  replace hb3 := hb3.ext e1
  replace hw := hw.trans e1
  clear hx4 e1
  refine wpList_own rfl 88 _ _ rfl _ _ rfl rfl _ _ hb3 (by kernel_rfl) rfl (by simp [Value.oneCell']) ?_
  intro u2 bn3 en sn
  replace bn := bn.same sn (by omega)
  replace hw := en w hw (by omega)
  clear en sn hb3
  have c2 := bn.cell
  have c3 := bn3.cell
  have f2 := bn.frozen
  have f3 := bn3.frozen
  go_wp2_with fail
  have FR : can r = radS a f := by
    obtain ⟨g1, g2, g3, g4, g5, g6, g7, g8, g9, g10, g11, g12⟩ := G.out
    simp only [g1, g2, g3, g5, g6, g7, g8, g9, g10, g11, g12, fbin, radS, nS, n2S, n4S]
  have N1 : can q2 = nS f := by
    obtain ⟨g1, g2, g3, g4, g5, g6, g7, g8, g9, g10, g11, g12⟩ := G.out
    simp only [g1, g2, fbin, nS]
  have N2 : can q3 = n2S f := by
    obtain ⟨g1, g2, g3, g4, g5, g6, g7, g8, g9, g10, g11, g12⟩ := G.out
    simp only [g1, g2, g3, fbin, nS, n2S]
  have N3 : can q4 = n3S f := by
    obtain ⟨g1, g2, g3, g4, g5, g6, g7, g8, g9, g10, g11, g12⟩ := G.out
    simp only [g1, g2, g3, g4, fbin, nS, n2S, n3S]
  have N4 : can q5 = n4S f := by
    obtain ⟨g1, g2, g3, g4, g5, g6, g7, g8, g9, g10, g11, g12⟩ := G.out
    simp only [g1, g2, g3, g5, fbin, nS, n2S, n4S]
  have FA : can y1 = rowS tabA cA4 f 0 ∧ can y2 = rowS tabA cA4 f 1 ∧ can y3 = rowS tabA cA4 f 2 ∧ can y4 = rowS tabA cA4 f 3 := by
    obtain ⟨a1, a2, a3, a4, a5, a6, a7⟩ := GA.out
    refine ⟨?_, ?_, ?_, ?_⟩
    · rw [a1, a2, N1]; rfl
    · rw [a3, a4, N1, N2]; rfl
    · rw [a5, a6, N1, N3]; rfl
    · rw [a7, N4]; rfl
  have FB : can x1 = rowS tabB cB4 f 0 ∧ can x2 = rowS tabB cB4 f 1 ∧ can x3 = rowS tabB cB4 f 2 ∧ can x4 = rowS tabB cB4 f 3 := by
    obtain ⟨a1, a2, a3, a4, a5, a6, a7⟩ := GB.out
    refine ⟨?_, ?_, ?_, ?_⟩
    · rw [a1, a2, N1]; rfl
    · rw [a3, a4, N1, N2]; rfl
    · rw [a5, a6, N1, N3]; rfl
    · rw [a7, N4]; rfl
  have HF := Lib.hid (And.intro FR (And.intro FA FB))
  clear FR FA FB N1 N2 N3 N4 G GA GB
  go_region
  all_goals go_wp2_with fail
  all_goals exact bodyPost_ret (v := .tuple #[.float .f64 r, .agg #[.float .f64 y1, .float .f64 y2, .float .f64 y3, .float .f64 y4], .agg #[.float .f64 x1, .float .f64 x2, .float .f64 x3, .float .f64 x4], .nilIface]) (by simp [results, Tryd.results48, go_sem, c2, c3]) rfl ⟨r, y1, y2, y3, y4, x1, x2, x3, x4, rfl, HF.out.1, HF.out.2.1, HF.out.2.2, (by repeat (first | (with_reducible exact hw) | (with_reducible refine ext_set1 ?_ _ _) | (with_reducible refine ext_set2 ?_ _ _) | (with_reducible refine Ext.drew ?_)))⟩

set_option maxHeartbeats 8000000 in
theorem look_ok0 {A : Nat → Addr} (a f : Nat) (mid : Int) (sc : Nat) (lon lat : Int) (w : World) (h8 : W0 A w) (hk : strP (okG a f) sc = 0) (hl : lookK 0 lat (signP (dS mid lon)) = 0) :
    Calls Tryd.prog 47 #[stripV a f mid sc, placeU lon lat] w (fun e w' => ∃ t v, e = .returned (.tuple #[wideV t (dS mid lon) (uS f lat (dS mid lon)) v, .nilIface]) ∧ can t = tS f lat ∧ can v = vS f lat (dS mid lon) ∧ Ext w w') := by
  have HC := Lib.hid (fun w h8 => svalid_ok0 (A := A) a f mid sc hk w h8)
  clear hk
  have W1 := dS_wrap mid lon
  obtain ⟨d, hd⟩ : ∃ d, d = dS mid lon := ⟨_, rfl⟩
  rw [← hd] at W1 hl ⊢
  obtain ⟨off, hoff⟩ : ∃ o, o = signP d := ⟨_, rfl⟩
  have W2 := hoff.symm
  rw [← hoff] at hl
  have hr : ¬ 89000000000 < lat ∧ ¬ lat < -89000000000 ∧ ¬ 45000000000 < off ∧ ¬ off < -45000000000 := by
    unfold lookK at hl
    rw [if_neg (by decide)] at hl
    split at hl
    · cases hl
    · omega
  obtain ⟨r1, r2, r3, r4⟩ := hr
  clear hl hoff hd
  go_enter Tryd.func47, Tryd.ntmps47
  go_wp2_with (first
    | (go_at_call 61; go_must (refine (HC.out _ (h8.ext (by repeat (first | exact Ext.refl _ | refine Ext.alloc ?_ _)))).mono ?_; rintro e w1 ⟨rfl, hx⟩; obtain ⟨hb1, hb2, hb3, hw⟩ := ext3 hx; have c1 := hb1.cell; have c2 := hb2.cell; clear hx)))
  clear c1 c2
  refine wp_region_all (fun g args v => g = 31 ∧ SpI normP args v) (by kernel_rfl) (by kernel_rfl) ?_
  repeat (first
    | (refine wpR_op rfl (fun w9 hw9 K hK => ?_); have k1 := (hb1.ext (bareN hw9 rfl rfl rfl rfl)).cell; have k2 := (hb2.ext (bareN hw9 rfl rfl rfl rfl)).cell; go_simp; refine hK _ ?_; clear hK K k1 k2 hw9 w9)
    | (refine wpR_op rfl (fun w9 hw9 K hK => ?_); go_simp; refine rel_call (call_same (norm_c _ _)) (fun v => ?_) (fun v hv => ?_); (simp [spI_iff]); subst hv; refine hK _ ?_; clear hK K hw9 w9))
  refine wpR_nil ?_
  intro w8 hx8 _
  replace hw := hw.trans (bareN hx8 rfl rfl rfl rfl)
  replace hb3 := hb3.ext (bareN hx8 rfl rfl rfl rfl)
  replace hb2 := hb2.ext (bareN hx8 rfl rfl rfl rfl)
  replace hb1 := hb1.ext (bareN hx8 rfl rfl rfl rfl)
  clear hx8
  have c1 := hb1.cell
  have c2 := hb2.cell
  go_wp2_with (first
    | (go_at_call 30; go_must (refine (signed_c _ _).mono ?_; rintro e w2 ⟨rfl, hx⟩; replace hw := hw.trans (bareN hx rfl rfl rfl rfl); replace hb3 := hb3.ext (bareN hx rfl rfl rfl rfl); replace hb2 := hb2.ext (bareN hx rfl rfl rfl rfl); replace hb1 := hb1.ext (bareN hx rfl rfl rfl rfl); clear c1 c2 hx; have c1 := hb1.cell; have c2 := hb2.cell))
    | (go_at_call 63; go_must (refine (iso_c a f lat _).mono ?_; rintro e w2 ⟨i1, rfl, hi1, hx⟩; replace hw := hw.trans (bareN hx rfl rfl rfl rfl); replace hb3 := hb3.ext (bareN hx rfl rfl rfl rfl); replace hb2 := hb2.ext (bareN hx rfl rfl rfl rfl); replace hb1 := hb1.ext (bareN hx rfl rfl rfl rfl); clear c1 c2 hx; have c1 := hb1.cell; have c2 := hb2.cell))
    | (go_at_call 62; go_must (refine (hyper_c _ _).mono ?_; rintro e w2 ⟨hh, t, rfl, hhh, ht, hx⟩; replace hw := hw.trans (bareN hx rfl rfl rfl rfl); replace hb3 := hb3.ext (bareN hx rfl rfl rfl rfl); replace hb2 := hb2.ext (bareN hx rfl rfl rfl rfl); replace hb1 := hb1.ext (bareN hx rfl rfl rfl rfl); clear c1 c2 hx; have c1 := hb1.cell; have c2 := hb2.cell))
    | (go_at_call 34; go_must (refine (cos_c _ _).mono ?_; rintro e w2 ⟨rfl, hx⟩; replace hw := hw.trans (bareN hx rfl rfl rfl rfl); replace hb3 := hb3.ext (bareN hx rfl rfl rfl rfl); replace hb2 := hb2.ext (bareN hx rfl rfl rfl rfl); replace hb1 := hb1.ext (bareN hx rfl rfl rfl rfl); clear c1 c2 hx; have c1 := hb1.cell; have c2 := hb2.cell))
    | (go_at_call 33; go_must (refine (sin_c _ _).mono ?_; rintro e w2 ⟨rfl, hx⟩; replace hw := hw.trans (bareN hx rfl rfl rfl rfl); replace hb3 := hb3.ext (bareN hx rfl rfl rfl rfl); replace hb2 := hb2.ext (bareN hx rfl rfl rfl rfl); replace hb1 := hb1.ext (bareN hx rfl rfl rfl rfl); clear c1 c2 hx; have c1 := hb1.cell; have c2 := hb2.cell))
    | (go_at_call 35; go_must (refine (sqrt_c _ _).mono ?_; rintro e w2 ⟨q, rfl, hq, hx⟩; replace hw := hw.trans (bareN hx rfl rfl rfl rfl); replace hb3 := hb3.ext (bareN hx rfl rfl rfl rfl); replace hb2 := hb2.ext (bareN hx rfl rfl rfl rfl); replace hb1 := hb1.ext (bareN hx rfl rfl rfl rfl); clear c1 c2 hx; have c1 := hb1.cell; have c2 := hb2.cell))
    | (go_at_call 36; go_must (refine (angle_c _ _ _).mono ?_; rintro e w2 ⟨rfl, hx⟩; replace hw := hw.trans (bareN hx rfl rfl rfl rfl); replace hb3 := hb3.ext (bareN hx rfl rfl rfl rfl); replace hb2 := hb2.ext (bareN hx rfl rfl rfl rfl); replace hb1 := hb1.ext (bareN hx rfl rfl rfl rfl); clear c1 c2 hx; have c1 := hb1.cell; have c2 := hb2.cell))
    | (go_at_call 64; go_must (refine (unsinh_c _ _).mono ?_; rintro e w2 ⟨v, rfl, hv, hx⟩; replace hw := hw.trans (bareN hx rfl rfl rfl rfl); replace hb3 := hb3.ext (bareN hx rfl rfl rfl rfl); replace hb2 := hb2.ext (bareN hx rfl rfl rfl rfl); replace hb1 := hb1.ext (bareN hx rfl rfl rfl rfl); clear c1 c2 hx; have c1 := hb1.cell; have c2 := hb2.cell))
    | (refine wpList_own rfl 85 _ _ rfl _ _ rfl rfl _ _ hb3 (by kernel_rfl) rfl (by simp [Value.oneCell']) ?_; go_must (intro u bn en sn; replace hw := en w hw (by omega); have kc := bn.cell; clear sn en hb3))
    | (with_reducible refine upon_fl rfl ?_; intro r n hr))
  have ht' : can t = tS f lat := by rw [ht, hi1]; rfl
  refine bodyPost_ret (v := .tuple #[wideV t d (uS f lat d) v, .nilIface]) (by simp [results, Tryd.results47, go_sem, kc]; rfl) rfl ⟨t, v, rfl, ht', ?_, hw⟩
  rw [hv]
  simp only [*, fbin, vS, tS]
set_option maxHeartbeats 8000000 in
theorem sto_ok0 {A : Nat → Addr} (a f : Nat) (mid : Int) (sc : Nat) (lon lat : Int) (w : World) (h8 : W0 A w) (hk : strP (okG a f) sc = 0) (hl : lookK 0 lat (signP (dS mid lon)) = 0) :
    Calls Tryd.prog 18 #[stripV a f mid sc, placeU lon lat] w (fun e w' => ∃ x y, e = .returned (.tuple #[flatU x y, .nilIface]) ∧ can x = stripX a f sc (uS f lat (dS mid lon)) (vS f lat (dS mid lon)) ∧ can y = stripY a f sc (uS f lat (dS mid lon)) (vS f lat (dS mid lon)) ∧ Ext w w') := by
  have HL := Lib.hid (fun w h8 => look_ok0 (A := A) a f mid sc lon lat w h8 hk hl)
  have HS := Lib.hid (fun w h8 => series_ok0 (A := A) a f w h8 (strP_ok hk).1)
  clear hk hl
  generalize dS mid lon = d at *
  have hu : -180000000000 ≤ uS f lat d ∧ uS f lat d ≤ 180000000000 := signP_range _
  generalize uS f lat d = u at *
  obtain ⟨u1, u2⟩ := hu
  generalize vS f lat d = V at *
  generalize tS f lat = T at *
  go_enter Tryd.func18, Tryd.ntmps18
  go_wp2_with (first
    | (go_at_call 47; go_must (refine (HL.out _ (h8.ext (by repeat (first | exact Ext.refl _ | refine Ext.alloc ?_ _)))).mono ?_; rintro e w1 ⟨t, v, rfl, ht, hv, hx⟩; obtain ⟨hb1, hb2, hb3, hw⟩ := ext3 hx; have c1 := hb1.cell; have c2 := hb2.cell; have k1 : ∀ o i, (w1.alloc o).cell? ⟨w.heap.size, i, none⟩ = #[Value.float .f64 a, Value.float .f64 f, Value.int .i64 mid, Value.float .f64 sc][i]? := (fun o i => (hb1.ext ((Ext.refl w1).alloc o)).cell i); clear hx))
    | (go_at_call 48; go_must (refine (HS.out _ (h8.ext (hw.alloc _))).mono ?_; rintro e w2 ⟨r, y0, y1, y2, y3, x0, x1, x2, x3, rfl, hr, hA, _, hx⟩; obtain ⟨hbW, hx'⟩ := ext1 hx; replace hw := hw.trans hx'; replace hb1 := hb1.ext hx'; replace hb3 := hb3.ext hx'; clear hx hx' hb2 c1 c2 k1; have hA' := Lib.hid hA; clear hA; have c1 := hb1.cell; have cW := hbW.cell; have kW : ∀ o o' i, ((w2.alloc o).alloc o').cell? ⟨w1.heap.size, i, none⟩ = #[Value.float .f64 t, Value.int .i64 d, Value.int .i64 u, Value.float .f64 v][i]? := (fun o o' i => (hbW.ext (((Ext.refl w2).alloc o).alloc o')).cell i)))
    | (with_reducible refine upon_fl rfl ?_; intro rz nz hrz))
  have hbA := (Blk.new w2 #[.float .f64 y0, .float .f64 y1, .float .f64 y2, .float .f64 y3] 88).ext ((Ext.refl _).alloc (.cells #[.float .f64 x0, .float .f64 x1, .float .f64 x2, .float .f64 x3] 88))
  have eA : Ext w2 ((w2.alloc (.cells #[.float .f64 y0, .float .f64 y1, .float .f64 y2, .float .f64 y3] 88)).alloc (.cells #[.float .f64 x0, .float .f64 x1, .float .f64 x2, .float .f64 x3] 88)) := ((Ext.refl w2).alloc _).alloc _
  replace hw := hw.trans eA
  replace hb1 := hb1.ext eA
  replace hb3 := hb3.ext eA
  replace hbW := hbW.ext eA
  clear c1 cW kW eA
  obtain ⟨CA, hCA⟩ : ∃ C : Array Value, C = #[.float .f64 y0, .float .f64 y1, .float .f64 y2, .float .f64 y3] := ⟨_, rfl⟩
  have HCA := Lib.hid hCA
  clear hCA
  have RZ := Lib.hid hrz
  clear hrz
  go_loopw [12, 40] (fun zv iv wr => ∃ (k x y : Nat), zv = .complex .f64 x y ∧ iv = .int .i64 k ∧ k ≤ 4 ∧ can x = zRe tabA cA4 f u V (fmul (can (floatOfInt .f64 u)) (can cRadS)) k ∧ can y = zIm tabA cA4 f u V V k ∧ Ext w wr ∧ Blk wr w.heap.size 56 #[.float .f64 a, .float .f64 f, .int .i64 mid, .float .f64 sc] ∧ Blk wr w1.heap.size 85 #[.float .f64 t, .int .i64 d, .int .i64 u, .float .f64 v] ∧ Blk wr w2.heap.size 88 CA ∧ Blk wr (w.heap.size + 1 + 1) 53 #[.float .f64 0, .float .f64 0]) (fun _ iv _ => 4 - (RowKit.intOf iv).toNat)
  case atStart => exact ⟨0, _, _, rfl, rfl, by omega, RZ.out, hv, by repeat (first | exact hw | refine Ext.drewN ?_ _), hb1, hbW, (by rw [HCA.out]; exact hbA), hb3⟩
  case round =>
    clear hw hb1 hb3 hbW hbA
    obtain ⟨k, x, y, rfl, rfl, hk, hx, hy, hw, hb1, hbW, hbA, hb3⟩ := hrel
    have HX := Lib.hid hx
    have HY := Lib.hid hy
    clear hx hy
    have tkX : Hid True := trivial
    rcases Nat.lt_or_ge k 4 with hlt | hge
    · obtain ⟨m1, m2⟩ := mul_range k hlt u u1 u2
      obtain ⟨J, hJ⟩ : ∃ J : Int, J = (k : Int) + 1 := ⟨_, rfl⟩
      obtain ⟨J2, hJ2⟩ : ∃ J2 : Int, J2 = 2 * J := ⟨_, rfl⟩
      obtain ⟨M, hM⟩ : ∃ M : Int, M = J2 * u := ⟨_, rfl⟩
      have WA : IntKind.i64.wrap ((k : Int) + 1) = J := by rw [hJ]; exact IntWalk.i64_in _ ⟨by omega, by omega⟩
      have WB : IntKind.i64.wrap (2 * J) = J2 := by rw [hJ2]; exact IntWalk.i64_in _ ⟨by omega, by omega⟩
      have hM2 : M = 2 * ((k : Int) + 1) * u := by rw [hM, hJ2, hJ]
      have WC : IntKind.i64.wrap (J2 * u) = M := by rw [← hM]; exact IntWalk.i64_in _ ⟨by rw [hM2]; omega, by rw [hM2]; omega⟩
      have K1 : (k : Int) < 4 := by omega
      obtain ⟨yk, EY, hyk⟩ := row_at hA'.out k hlt
      rw [← HCA.out] at EY
      have HM := Lib.hid hM2
      have HJ0 := Lib.hid hJ
      have HJ : Hid (J2 = 2 * ((k : Int) + 1)) := Lib.hid (by rw [hJ2, hJ])
      clear hM hM2 hJ hJ2 m1 m2 RZ tkX
      go_wp2_with fail
      refine wp_region_all FZ (by kernel_rfl) (by kernel_rfl) ?_
      repeat (first
        | (refine wpR_op rfl (fun w9 hw9 K hK => ?_); have k2 := (hbW.ext (bareN hw9 rfl rfl rfl rfl)).cell; have k3 := (hbA.ext (bareN hw9 rfl rfl rfl rfl)).cell; go_simp; refine hK _ ?_; clear hK K k2 k3 hw9 w9)
        | (refine wpR_op rfl (fun w9 hw9 K hK => ?_); go_simp; refine rel_fl rfl ?_; intro fv hfv; refine hK _ ?_; clear hK K hw9 w9)
        | (refine wpR_op rfl (fun w9 hw9 K hK => ?_); go_simp; refine rel_call (CxR.call (sine_c _ _ _)) (fun v => ?_) (fun v hv => ?_); (simp [FZ, spSine_iff]); obtain ⟨sx, sy, rfl, hsx, hsy⟩ := hv; refine hK _ ?_; clear hK K hw9 w9)
        | (refine wpR_op rfl (fun w9 hw9 K hK => ?_); go_simp; refine rel_call (CxR.call (times_c _ _ _ _)) (fun v => ?_) (fun v hv => ?_); (simp [FZ, spTimes_iff]); obtain ⟨tx, ty, rfl, htx, hty⟩ := hv; refine hK _ ?_; clear hK K hw9 w9)
        | (refine wpR_op rfl (fun w9 hw9 K hK => ?_); go_simp; refine rel_cx rfl ?_; intro zx zy hzx hzy; refine hK _ ?_; clear hK K hw9 w9))
      refine wpR_nil ?_
      intro w8 hx8 _
      replace hw := hw.trans (bareN hx8 rfl rfl rfl rfl)
      replace hb3 := hb3.ext (bareN hx8 rfl rfl rfl rfl)
      replace hbW := hbW.ext (bareN hx8 rfl rfl rfl rfl)
      replace hbA := hbA.ext (bareN hx8 rfl rfl rfl rfl)
      replace hb1 := hb1.ext (bareN hx8 rfl rfl rfl rfl)
      clear hx8
      go_wp2_with fail
      go_roundw
      case rel =>
        refine ⟨k + 1, zx, zy, rfl, by rw [HJ0.out]; simp, by omega, ?_, ?_, hw, hb1, hbW, hbA, hb3⟩
        · rw [hzx, HX.out, htx, hsx, hfv, hyk, HM.out, HJ.out, hv]; rfl
        · rw [hzy, HY.out, hty, hsy, hfv, hyk, HM.out, HJ.out, hv]; rfl
      case measure =>
        have hj := HJ0.out
        simp [RowKit.intOf]; omega
    · have h4 : k = 4 := by omega
      subst h4
      have c1 := hb1.cell
      go_wp2_with (first
        | (refine wpList_own rfl 53 _ _ rfl _ _ rfl rfl _ _ hb3 (by kernel_rfl) rfl (by simp [Value.oneCell']) ?_; go_must (intro wz bn en sn; replace hw := en w (by repeat (first | exact hw | refine Ext.drewN ?_ _)) (by omega); have kc := bn.cell; clear sn en hb3))
        | (clear RZ; with_reducible refine upon_fl rfl ?_; intro R nR hR)
        | (clear tkX; with_reducible refine upon_fl rfl ?_; intro fx nx hfx)
        | (with_reducible refine upon_fl rfl ?_; intro fy ny hfy))
      refine bodyPost_ret (v := .tuple #[flatU fx fy, .nilIface]) (by simp [results, Tryd.results18, go_sem, kc]) rfl ⟨fx, fy, rfl, ?_, ?_, hw⟩
      · rw [hfx, hR, hr, HY.out]; rfl
      · rw [hfy, hR, hr, HX.out]; rfl
set_option maxHeartbeats 4000000 in
theorem waved_c0 {A : Nat → Addr} (w : World) (h8 : W0 A w) : Calls Tryd.prog 12 #[] w (ExR (.bool true) w) := by
  obtain ⟨hk, hl, ho0, ho1, ho2⟩ := waved_num
  have HT0 := fun w h8 => sto_ok0 (A := A) wA 0 0 w1S 0 45000000000 w h8 hk hl
  clear hk hl
  generalize stripX wA 0 w1S (uS 0 45000000000 (dS 0 0)) (vS 0 45000000000 (dS 0 0)) = X at *
  generalize stripY wA 0 w1S (uS 0 45000000000 (dS 0 0)) (vS 0 45000000000 (dS 0 0)) = Y at *
  have HT := Lib.hid HT0
  clear HT0
  go_enter Tryd.func12, Tryd.ntmps12
  go_wp2_with (first
    | (go_at_call 18; go_must (refine (HT.out _ (h8.ext (by repeat (first | exact Ext.refl _ | refine Ext.alloc ?_ _)))).mono ?_; rintro e w1 ⟨x, y, rfl, hx, hy, hw⟩; have q0 : FloatKind.f64.format.order x 0 = some .eq := ((order_canU x (c := 0) (by decide +kernel)).symm.trans (by rw [hx]; exact ho0)); have q1 : FloatKind.f64.format.order y 4616009474069663580 = some .gt := ((order_canU y (c := 4616009474069663580) (by decide +kernel)).symm.trans (by rw [hy]; exact ho1)); have q2 : FloatKind.f64.format.order y 4616031992067800433 = some .lt := ((order_canU y (c := 4616031992067800433) (by decide +kernel)).symm.trans (by rw [hy]; exact ho2)); clear ho0 ho1 ho2)))
  go_ret
  exact ⟨rfl, hw.alloc _⟩
end Go.Proofs.YtcppgbhjbmfldaaDoor
