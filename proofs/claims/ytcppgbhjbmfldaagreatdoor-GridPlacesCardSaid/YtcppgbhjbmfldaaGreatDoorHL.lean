/- Walks: the numbers of a series, package wave's. -/
import Derived.Test.YtcppgbhjbmfldaaGreatDoorZQ
namespace Go.Proofs.YtcppgbhjbmfldaaGreatDoor
open Go.RowKit Go.Fp Go.Rel
set_option maxRecDepth 20000

theorem ext_set1 {w b : World} (h : Ext w b) (i : Nat) (v : Value) : Ext w (b.setCell ⟨w.heap.size + 1, i, none⟩ v) := h.setCell (by show w.heap.size ≤ w.heap.size + 1; omega) v
theorem ext_set2 {w b : World} (h : Ext w b) (i : Nat) (v : Value) : Ext w (b.setCell ⟨w.heap.size + 1 + 1, i, none⟩ v) := h.setCell (by show w.heap.size ≤ w.heap.size + 1 + 1; omega) v
set_option maxHeartbeats 40000000 in
theorem series_ok {A : Nat → Addr} (a f : Nat) (w : World) (h8 : World8 A w) (hg : okG a f = true) :
    Calls Tryz.prog 34 #[globeV a f] w (SerR a f w) := by
  have HV := Lib.hid (fun w h => valid_c (A := A) a f w h)
  rw [hg] at HV
  go_enter Tryz.func34, Tryz.ntmps34
  go_wp2_with (first
    | (go_at_call 65; go_must (refine (HV.out _ (h8.ext ((((Ext.refl w).alloc _).alloc _).alloc _))).mono ?_; rintro e w1 ⟨rfl, hx⟩; obtain ⟨hb1, hb2, hb3, hw⟩ := ext3 hx; clear hx; have k1 : ∀ o i, (w1.alloc o).cell? ⟨w.heap.size, i, none⟩ = #[Value.float .f64 a, Value.float .f64 f][i]? := (fun o i => (hb1.ext ((Ext.refl w1).alloc o)).cell i); have k0 := hb1.cell))
    | (with_reducible refine upon_fl rfl ?_; intro r n hr))
  rename_i q1 m1 g1 q2 m2 g2 q3 m3 g3 q4 m4 g4 q5 m5 g5 q6 m6 g6 q7 m7 g7 q8 m8 g8 q9 m9 g9 q10 m10 g10 q11 m11 g11 KK hKK
  generalize hN : m1 + m2 + m3 + m4 + m5 + m6 + m7 + m8 + m9 + m10 + m11 + n = nn at *
  have hp0 : Blk (w1.alloc (.cells #[.float .f64 q2] tF)) w1.heap.size tF #[.float .f64 q2] := Blk.new _ _ _
  have G := Lib.hid (And.intro g1 (And.intro g2 (And.intro g3 (And.intro g4 (And.intro g5 (And.intro g6 (And.intro g7 (And.intro g8 (And.intro g9 (And.intro g10 (And.intro g11 hr)))))))))))
  clear g1 g2 g3 g4 g5 g6 g7 g8 g9 g10 g11 hr hN k0 k1
  refine wp_region_told 18 (fun g args v => g = 66 ∧ SpPoly (can q2) tabA args v) (SlR (w1.heap.size + 1) tF (fun n => fls (tabA n))) (told_slR _ _ _) (by kernel_rfl) (by kernel_rfl) (told_all ((told_slR _ _ _).undef _) ?_) ?_
  · simp [go_sem]
  repeat (first
    | (refine wpD_op rfl (fun w2 hx hn K hK => ?_); have k2 := (hp0.ext (bareN hx rfl rfl rfl rfl)).cell; go_simp; refine hK _ ?_; clear hK K k2 hx hn w2)
    | (refine wpD_op rfl (fun w2 hx hn K hK => ?_); go_simp; refine relD_fl rfl (fun y hy => ?_) (fun _ _ => trivial); refine hK _ ?_; clear hK K hx hn w2)
    | (refine wpD_op rfl (fun w2 hx hn K hK => ?_); have hsz : w1.heap.size + 1 ≤ w2.heap.size := (by have := hx.size; simpa using this); go_simp; refine ⟨(Ext.refl _).alloc _, fun _ => Blk.new _ _ _, ?_⟩; generalize w2.heap.size = nb at *; refine hK _ ?_; clear hK K hx hn w2)
    | (refine wpD_op rfl (fun w2 hx hn K hK => ?_); have q := (show _ → Blk w2 _ tF (fls (tabA 4)) from hn 49 (by decide)) (by assumption); go_simp; have hq := poly_c q2 (tabA 4) _ 4 w1.heap.size tF w2 q (by decide) (by decide) (hp0.ext (bareN hx rfl rfl rfl rfl)); refine relD_call (FlR.call hq) (fun v => ⟨fun h => ⟨rfl, (spPoly_iff _ _ _ _ _ _ _).2 h⟩, fun h => (spPoly_iff _ _ _ _ _ _ _).1 h.2⟩) (fun v w hv => (by obtain ⟨_, rfl, _⟩ := hv; trivial)) (fun v hv => ?_); clear hq q; obtain ⟨pa1, rfl, hpa1⟩ := hv; refine hK _ ?_; clear hK K hx hn w2)
    | (refine wpD_op rfl (fun w2 hx hn K hK => ?_); have q := (show _ → Blk w2 _ tF (fls (tabA 3)) from hn 54 (by decide)) (by assumption); go_simp; have hq := poly_c q2 (tabA 3) _ 3 w1.heap.size tF w2 q (by decide) (by decide) (hp0.ext (bareN hx rfl rfl rfl rfl)); refine relD_call (FlR.call hq) (fun v => ⟨fun h => ⟨rfl, (spPoly_iff _ _ _ _ _ _ _).2 h⟩, fun h => (spPoly_iff _ _ _ _ _ _ _).1 h.2⟩) (fun v w hv => (by obtain ⟨_, rfl, _⟩ := hv; trivial)) (fun v hv => ?_); clear hq q; obtain ⟨pa2, rfl, hpa2⟩ := hv; refine hK _ ?_; clear hK K hx hn w2)
    | (refine wpD_op rfl (fun w2 hx hn K hK => ?_); have q := (show _ → Blk w2 _ tF (fls (tabA 2)) from hn 59 (by decide)) (by assumption); go_simp; have hq := poly_c q2 (tabA 2) _ 2 w1.heap.size tF w2 q (by decide) (by decide) (hp0.ext (bareN hx rfl rfl rfl rfl)); refine relD_call (FlR.call hq) (fun v => ⟨fun h => ⟨rfl, (spPoly_iff _ _ _ _ _ _ _).2 h⟩, fun h => (spPoly_iff _ _ _ _ _ _ _).1 h.2⟩) (fun v w hv => (by obtain ⟨_, rfl, _⟩ := hv; trivial)) (fun v hv => ?_); clear hq q; obtain ⟨pa3, rfl, hpa3⟩ := hv; refine hK _ ?_; clear hK K hx hn w2))
  refine wpD_nil ?_
  intro w3 hx3 hR3
  rename_i nb1 hs1 y1 hy1 nb2 hs2 y2 hy2 y3 hy3
  have l1 := (show _ → Blk w3 nb1 tF (fls (tabA 4)) from hR3 49) hs1
  have l2 := (show _ → Blk w3 nb2 tF (fls (tabA 3)) from hR3 54) hs2
  have l3 := (show _ → Blk w3 nb tF (fls (tabA 2)) from hR3 59) hsz
  clear hR3
  have e1 : Ext (w1.alloc (.cells #[.float .f64 q2] tF)) w3 := bareN hx3 rfl rfl rfl rfl
  have e0 : Ext w1 w3 := ((Ext.refl w1).alloc _).trans e1
  have z2 := hb2.lt
  have z3 := hb3.lt
  have z0 := hw.size
  replace hp0 := hp0.ext e1
  replace hb2 := hb2.ext e0
  replace hb3 := hb3.ext e0
  replace hw := hw.trans e0
  clear hx3 hb1 e1 e0
  refine wpList_own rfl 81 _ _ rfl _ _ rfl rfl _ _ hb2 (by kernel_rfl) rfl (by simp [Value.oneCell']) ?_
  intro u bn en sn
  replace l1 := l1.same sn (by omega)
  replace l2 := l2.same sn (by omega)
  replace l3 := l3.same sn (by omega)
  replace hp0 := hp0.same sn (by omega)
  replace hb3 := hb3.same sn (by omega)
  replace hw := en w hw (by omega)
  have t1 := l1.lt
  have t2 := l2.lt
  have t3 := l3.lt
  clear en sn hb2 l1 l2 l3
  have GA := Lib.hid (And.intro hy1 (And.intro hpa1 (And.intro hy2 (And.intro hpa2 (And.intro hy3 (And.intro hpa3 hy))))))
  clear hy1 hpa1 hy2 hpa2 hy3 hpa3 hy
  generalize y = y4 at *
  go_wp2_with fail
  refine wp_region_told 18 (fun g args v => g = 66 ∧ SpPoly (can q2) tabB args v) (SlR (u.heap.size) tF (fun n => fls (tabB n))) (told_slR _ _ _) (by kernel_rfl) (by kernel_rfl) (told_all ((told_slR _ _ _).undef _) ?_) ?_
  · simp [go_sem, slR_slice]
    exact ⟨fun h => absurd h (by omega), fun h => absurd h (by omega), fun h => absurd h (by omega)⟩
  repeat (first
    | (refine wpD_op rfl (fun w2 hx hn K hK => ?_); have k2 := (hp0.ext (bareN hx rfl rfl rfl rfl)).cell; go_simp; refine hK _ ?_; clear hK K k2 hx hn w2)
    | (refine wpD_op rfl (fun w2 hx hn K hK => ?_); go_simp; refine relD_fl rfl (fun y hy => ?_) (fun _ _ => trivial); refine hK _ ?_; clear hK K hx hn w2)
    | (refine wpD_op rfl (fun w2 hx hn K hK => ?_); have hsz : u.heap.size ≤ w2.heap.size := (by have := hx.size; simpa using this); go_simp; refine ⟨(Ext.refl _).alloc _, fun _ => Blk.new _ _ _, ?_⟩; generalize w2.heap.size = nb at *; refine hK _ ?_; clear hK K hx hn w2)
    | (refine wpD_op rfl (fun w2 hx hn K hK => ?_); have q := (show _ → Blk w2 _ tF (fls (tabB 4)) from hn 67 (by decide)) (by assumption); go_simp; have hq := poly_c q2 (tabB 4) _ 4 w1.heap.size tF w2 q (by decide) (by decide) (hp0.ext (bareN hx rfl rfl rfl rfl)); refine relD_call (FlR.call hq) (fun v => ⟨fun h => ⟨rfl, (spPoly_iff _ _ _ _ _ _ _).2 h⟩, fun h => (spPoly_iff _ _ _ _ _ _ _).1 h.2⟩) (fun v w hv => (by obtain ⟨_, rfl, _⟩ := hv; trivial)) (fun v hv => ?_); clear hq q; obtain ⟨pb1, rfl, hpb1⟩ := hv; refine hK _ ?_; clear hK K hx hn w2)
    | (refine wpD_op rfl (fun w2 hx hn K hK => ?_); have q := (show _ → Blk w2 _ tF (fls (tabB 3)) from hn 72 (by decide)) (by assumption); go_simp; have hq := poly_c q2 (tabB 3) _ 3 w1.heap.size tF w2 q (by decide) (by decide) (hp0.ext (bareN hx rfl rfl rfl rfl)); refine relD_call (FlR.call hq) (fun v => ⟨fun h => ⟨rfl, (spPoly_iff _ _ _ _ _ _ _).2 h⟩, fun h => (spPoly_iff _ _ _ _ _ _ _).1 h.2⟩) (fun v w hv => (by obtain ⟨_, rfl, _⟩ := hv; trivial)) (fun v hv => ?_); clear hq q; obtain ⟨pb2, rfl, hpb2⟩ := hv; refine hK _ ?_; clear hK K hx hn w2)
    | (refine wpD_op rfl (fun w2 hx hn K hK => ?_); have q := (show _ → Blk w2 _ tF (fls (tabB 2)) from hn 77 (by decide)) (by assumption); go_simp; have hq := poly_c q2 (tabB 2) _ 2 w1.heap.size tF w2 q (by decide) (by decide) (hp0.ext (bareN hx rfl rfl rfl rfl)); refine relD_call (FlR.call hq) (fun v => ⟨fun h => ⟨rfl, (spPoly_iff _ _ _ _ _ _ _).2 h⟩, fun h => (spPoly_iff _ _ _ _ _ _ _).1 h.2⟩) (fun v w hv => (by obtain ⟨_, rfl, _⟩ := hv; trivial)) (fun v hv => ?_); clear hq q; obtain ⟨pb3, rfl, hpb3⟩ := hv; refine hK _ ?_; clear hK K hx hn w2))
  refine wpD_nil ?_
  intro w4 hx4 hR4
  clear hR4
  rename_i nc1 hc1 x1 hx1 nc2 hc2 x2 hx2 x3 hx3
  have GB := Lib.hid (And.intro hx1 (And.intro hpb1 (And.intro hx2 (And.intro hpb2 (And.intro hx3 (And.intro hpb3 hy))))))
  clear hx1 hpb1 hx2 hpb2 hx3 hpb3 hy t1 t2 t3 hc1 hc2 hp0 hs1 hs2 hsz
  generalize y = x4 at *
  have e1 : Ext u w4 := bareN hx4 rfl rfl rfl rfl
  replace bn := bn.ext e1
  replace hb3 := hb3.ext e1
  replace hw := hw.trans e1
  clear hx4 e1
  refine wpList_own rfl 81 _ _ rfl _ _ rfl rfl _ _ hb3 (by kernel_rfl) rfl (by simp [Value.oneCell']) ?_
  intro u2 bn3 en sn
  replace bn := bn.same sn (by omega)
  replace hw := en w hw (by omega)
  clear en sn hb3
  have c2 := bn.cell
  have c3 := bn3.cell
  have f2 := bn.frozen
  have f3 := bn3.frozen
  go_wp2_with fail
  have FR : can r = radS a f := by
    obtain ⟨g1, g2, g3, g4, g5, g6, g7, g8, g9, g10, g11, g12⟩ := G.out
    simp only [g1, g2, g3, g5, g6, g7, g8, g9, g10, g11, g12, fbin, radS, nS, n2S, n4S]
  have N1 : can q2 = nS f := by
    obtain ⟨g1, g2, g3, g4, g5, g6, g7, g8, g9, g10, g11, g12⟩ := G.out
    simp only [g1, g2, fbin, nS]
  have N2 : can q3 = n2S f := by
    obtain ⟨g1, g2, g3, g4, g5, g6, g7, g8, g9, g10, g11, g12⟩ := G.out
    simp only [g1, g2, g3, fbin, nS, n2S]
  have N3 : can q4 = n3S f := by
    obtain ⟨g1, g2, g3, g4, g5, g6, g7, g8, g9, g10, g11, g12⟩ := G.out
    simp only [g1, g2, g3, g4, fbin, nS, n2S, n3S]
  have N4 : can q5 = n4S f := by
    obtain ⟨g1, g2, g3, g4, g5, g6, g7, g8, g9, g10, g11, g12⟩ := G.out
    simp only [g1, g2, g3, g5, fbin, nS, n2S, n4S]
  have FA : can y1 = rowS tabA cA4 f 0 ∧ can y2 = rowS tabA cA4 f 1 ∧ can y3 = rowS tabA cA4 f 2 ∧ can y4 = rowS tabA cA4 f 3 := by
    obtain ⟨a1, a2, a3, a4, a5, a6, a7⟩ := GA.out
    refine ⟨?_, ?_, ?_, ?_⟩
    · rw [a1, a2, N1]; rfl
    · rw [a3, a4, N1, N2]; rfl
    · rw [a5, a6, N1, N3]; rfl
    · rw [a7, N4]; rfl
  have FB : can x1 = rowS tabB cB4 f 0 ∧ can x2 = rowS tabB cB4 f 1 ∧ can x3 = rowS tabB cB4 f 2 ∧ can x4 = rowS tabB cB4 f 3 := by
    obtain ⟨a1, a2, a3, a4, a5, a6, a7⟩ := GB.out
    refine ⟨?_, ?_, ?_, ?_⟩
    · rw [a1, a2, N1]; rfl
    · rw [a3, a4, N1, N2]; rfl
    · rw [a5, a6, N1, N3]; rfl
    · rw [a7, N4]; rfl
  have HF := Lib.hid (And.intro FR (And.intro FA FB))
  clear FR FA FB N1 N2 N3 N4 G GA GB
  go_region
  all_goals go_wp2_with fail
  all_goals exact bodyPost_ret (v := .tuple #[.float .f64 r, .agg #[.float .f64 y1, .float .f64 y2, .float .f64 y3, .float .f64 y4], .agg #[.float .f64 x1, .float .f64 x2, .float .f64 x3, .float .f64 x4], .nilIface]) (by simp [results, Tryz.results34, go_sem, c2, c3]) rfl ⟨r, y1, y2, y3, y4, x1, x2, x3, x4, rfl, HF.out.1, HF.out.2.1, HF.out.2.2, (by repeat (first | (with_reducible exact hw) | (with_reducible refine ext_set1 ?_ _ _) | (with_reducible refine ext_set2 ?_ _ _) | (with_reducible refine Ext.drew ?_)))⟩

end Go.Proofs.YtcppgbhjbmfldaaGreatDoor
