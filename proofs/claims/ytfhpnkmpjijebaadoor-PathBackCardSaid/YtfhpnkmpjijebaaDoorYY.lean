/- Walk: the geodesic between two places, package path's. -/
import Derived.Test.YtfhpnkmpjijebaaDoorYZ
namespace Go.Proofs.YtfhpnkmpjijebaaDoor
open Go.RowKit Go.Fp Go.Rel
set_option maxRecDepth 20000

theorem angle_zero {y x : Nat} (h : (angleP y x).2 = false) : (angleP y x).1 = 0 := by
  unfold angleP at *
  by_cases hc : (!finP x || !finP y || (feq x 0 && feq y 0)) = true
  · rw [if_pos hc]
  · rw [if_neg hc] at h
    exfalso
    dsimp only at h
    split at h
    · simp at h
    · split at h
      · simp at h
      · split at h <;> simp at h
theorem rad_zero : radP 0 = 0 := by decide +kernel
def SpOff (args : Array Value) (v : Value) : Prop := ∃ p q ss cs cm : Nat, args = #[.agg #[.float .f64 p, .float .f64 q], .float .f64 ss, .float .f64 cs, .float .f64 cm] ∧ isFl (offP (can q) (can ss) (can cs) (can cm)) v
theorem spOff_iff (p q ss cs cm : Nat) (v : Value) : SpOff #[.agg #[.float .f64 p, .float .f64 q], .float .f64 ss, .float .f64 cs, .float .f64 cm] v ↔ isFl (offP (can q) (can ss) (can cs) (can cm)) v := by
  unfold SpOff
  exact ⟨fun ⟨_, _, _, _, _, h, k⟩ => by simp at h; obtain ⟨⟨rfl, rfl⟩, rfl, rfl, rfl⟩ := h; exact k, fun h => ⟨_, _, _, _, _, rfl, h⟩⟩
def SpA1 (args : Array Value) (v : Value) : Prop := ∃ y x : Nat, args = #[.float .f64 y, .float .f64 x] ∧ v = .int .i64 (angleP (can y) (can x)).1
theorem spA1_iff (y x : Nat) (v : Value) : SpA1 #[.float .f64 y, .float .f64 x] v ↔ v = .int .i64 (angleP (can y) (can x)).1 := by
  unfold SpA1
  exact ⟨fun ⟨_, _, h, k⟩ => by simp at h; obtain ⟨rfl, rfl⟩ := h; exact k, fun h => ⟨_, _, rfl, h⟩⟩

end Go.Proofs.YtfhpnkmpjijebaaDoor

/- Walk: the geodesic between two places, with no error in sight. Printed by gen_pathback.py. -/
namespace Go.Proofs.YtfhpnkmpjijebaaDoor
open Go.RowKit Go.Fp Go.Rel
set_option maxRecDepth 20000
set_option maxHeartbeats 4000000 in
theorem valid_ok0 (a f : Nat) (h : okG a f = true) (w : World) : Calls Tryd.prog 15 #[globeV a f] w (ExR .nilIface w) := by
  unfold okG at h
  rw [Bool.and_eq_true] at h
  obtain ⟨h1, h2⟩ := h
  obtain ⟨o1 | o1, o2 | o2⟩ := btw_true h1
  all_goals (obtain ⟨o3 | o3, o4 | o4⟩ := btw_true h2)
  all_goals
    clear h1 h2
    go_enter Tryd.func15, Tryd.ntmps15
    go_wp2
    go_ret
    exact ⟨rfl, (Ext.refl w).alloc _⟩
set_option maxHeartbeats 32000000 in
theorem between_ok0 {A : Nat → Addr} (v : LineV) (w : World) (h : okG v.a v.f = true) (h1 : v.latA ≤ 90000000000) (h2 : -90000000000 ≤ v.latA) (h3 : v.latB ≤ 90000000000) (h4 : -90000000000 ≤ v.latB) (res : Option Nat) (hres : v.go 60 v.all = res)
    (post : Ending → World → Prop) (hn : res ≠ none) (hs : ∀ x, res = some x → ∀ e w', LineR A (v.far x) (v.outA x) (v.inA x) 0 w e w' → post e w') :
    Calls Tryd.prog 6 #[globeV v.a v.f, placeV v.lonA v.latA, placeV v.lonB v.latB] w post := by
  have HG : Hid (∀ w, Calls Tryd.prog 15 #[globeV v.a v.f] w (ExR .nilIface w)) := fun w => valid_ok0 v.a v.f h w
  have HLA : Hid (∀ w, Calls Tryd.prog 16 #[.int .i64 v.latA] w (ExR (.bool true) w)) := fun w => by simpa [h1, h2] using pathLat_c v.latA w
  have HLB : Hid (∀ w, Calls Tryd.prog 16 #[.int .i64 v.latB] w (ExR (.bool true) w)) := fun w => by simpa [h3, h4] using pathLat_c v.latB w
  clear h
  obtain ⟨a, f, lonA, latA, lonB, latB⟩ := v
  simp only [] at *
  have W1 : IntKind.i64.wrap (normP lonB - normP lonA) = normP lonB - normP lonA := IntWalk.i64_in _ ⟨by have := normP_lo lonB; have := normP_hi lonA; omega, by have := normP_hi lonB; have := normP_lo lonA; omega⟩
  obtain ⟨V, hV⟩ : ∃ V, V = LineV.mk a f lonA latA lonB latB := ⟨_, rfl⟩
  rw [← hV] at hres hs
  have Hres := Lib.hid hres
  have HN := Lib.hid hn
  have HS := Lib.hid hs
  have HV := Lib.hid hV
  have hVf : V.f = f := by rw [hV]
  have hVa : V.a = a := by rw [hV]
  clear hres hn hs hV
  have tk : Hid True := trivial
  have tl : Hid True := trivial
  go_enter Tryd.func6, Tryd.ntmps6
  go_wp2_with (first
    | (go_at_call 15; go_must (refine (HG.out _).mono ?_; rintro e w1 ⟨rfl, hx1⟩; obtain ⟨hB, hw⟩ := ext4 hx1; clear hx1; have kc := And.intro hB.1.cell (And.intro hB.2.1.cell hB.2.2.1.cell)))
    | (go_at_call 16; clear tl; go_must (refine (HLA.out _).mono ?_; rintro e v1 ⟨rfl, hx⟩; clear kc; replace hB := hB.ext (bareN hx rfl rfl rfl rfl); replace hw := hw.trans (bareN hx rfl rfl rfl rfl); clear hx; have kc := And.intro hB.1.cell (And.intro hB.2.1.cell hB.2.2.1.cell)))
    | (go_at_call 16; go_must (refine (HLB.out _).mono ?_; rintro e v1 ⟨rfl, hx⟩; clear kc; replace hB := hB.ext (bareN hx rfl rfl rfl rfl); replace hw := hw.trans (bareN hx rfl rfl rfl rfl); clear hx; have kc := And.intro hB.1.cell (And.intro hB.2.1.cell hB.2.2.1.cell)))
    | (go_at_call 17; clear tk; go_must (refine (reduced_c _ _ _ _).mono ?_; rintro e v1 ⟨rc1, rs1, rfl, hc1, hs1, hx⟩; clear kc; replace hB := hB.ext (bareN hx rfl rfl rfl rfl); replace hw := hw.trans (bareN hx rfl rfl rfl rfl); clear hx; have kc := And.intro hB.1.cell (And.intro hB.2.1.cell hB.2.2.1.cell)))
    | (go_at_call 17; go_must (refine (reduced_c _ _ _ _).mono ?_; rintro e v1 ⟨rc2, rs2, rfl, hc2, hs2, hx⟩; clear kc; replace hB := hB.ext (bareN hx rfl rfl rfl rfl); replace hw := hw.trans (bareN hx rfl rfl rfl rfl); clear hx; have kc := And.intro hB.1.cell (And.intro hB.2.1.cell hB.2.2.1.cell))))
  clear kc
  refine wp_region_all (fun g args v => (g = 19 ∧ SpNorm normP args v) ∨ (g = 18 ∧ SpNorm signP args v)) (by kernel_rfl) (by kernel_rfl) ?_
  repeat (first
    | (refine wpR_op rfl (fun w1 hx K hK => ?_); have kc := And.intro (hB.2.1.ext (bareN hx rfl rfl rfl rfl)).cell (hB.2.2.1.ext (bareN hx rfl rfl rfl rfl)).cell; go_simp; refine hK _ ?_; clear hK K kc hx w1)
    | (refine wpR_op rfl (fun w1 hx K hK => ?_); go_simp; refine rel_fl rfl ?_; intro r hr; refine hK _ ?_; clear hK K hx w1)
    | (refine wpR_op rfl (fun w1 hx K hK => ?_); go_simp; refine rel_call (same_call (norm_c _ _)) (fun v => ?_) (fun v hv => ?_); (simp [spNorm_iff]); subst hv; refine hK _ ?_; clear hK K hx w1)
    | (refine wpR_op rfl (fun w1 hx K hK => ?_); go_simp; refine rel_call (ExR.call (signed_c _ _)) (fun v => ?_) (fun v hv => ?_); (simp [spNorm_iff]); subst hv; refine hK _ ?_; clear hK K hx w1))
  refine wpR_nil ?_
  intro w2 hx _
  replace hB := hB.ext (bareN hx rfl rfl rfl rfl)
  replace hw := hw.trans (bareN hx rfl rfl rfl rfl)
  clear hx
  have eall : can r = V.all := by rw [HV.out]; simp only [LineV.all, radP, *, fbin]
  have ec1 : can rc1 = V.cu1 := by rw [HV.out, hc1]; rfl
  have es1 : can rs1 = V.su1 := by rw [HV.out, hs1]; rfl
  have ec2 : can rc2 = V.cu2 := by rw [HV.out, hc2]; rfl
  have es2 : can rs2 = V.su2 := by rw [HV.out, hs2]; rfl
  clear hr hc1 hc2 hs1 hs2
  go_wp2_with fail
  obtain ⟨L, hL⟩ : ∃ l, l = [(w.heap.size, 35, #[Value.float .f64 a, Value.float .f64 f]), (w.heap.size + 1, 26, #[Value.int .i64 lonA, Value.int .i64 latA]), (w.heap.size + 1 + 1, 26, #[Value.int .i64 lonB, Value.int .i64 latB]), (w.heap.size + 1 + 1 + 1, 30, #[Value.float .f64 0, Value.int .i64 0, Value.int .i64 0])] := ⟨_, rfl⟩
  rw [← hL] at hB
  go_loopw [14, 15] (fun l n wr => ∃ (rl : Nat) (nn : Int), l = .float .f64 rl ∧ n = .int .i64 nn ∧
      ((∃ k : Nat, nn = k ∧ k ≤ 60 ∧ V.go (60 - k) (can rl) = res) ∨ (nn = -1 ∧ (if LineV.out (can rl) then none else some (can rl)) = res)) ∧ Bks wr L ∧ Ext w wr)
    (fun _ n _ => if intOf n < 0 then 0 else 62 - (intOf n).toNat)
  case atStart => exact ⟨r, 0, rfl, rfl, .inl ⟨0, rfl, by omega, by rw [eall]; exact Hres.out⟩, hB, by repeat (first | exact hw | refine Ext.drewN ?_ _)⟩
  case round =>
    clear hB hw
    obtain ⟨rl, nn, rfl, rfl, hrel, hB, hw⟩ := hrel
    have HR := Lib.hid hrel
    clear hrel
    subst hL
    have kc := hB.1.cell
    cases hout : LineV.out (can rl) with
    | true =>
      have hno : res = none := by
        rcases HR.out with ⟨k, _, _, h⟩ | ⟨_, h⟩
        · rw [← h, go_out _ hout]
        · rw [← h, hout]; rfl
      exact absurd hno HN.out
    | false =>
      obtain ⟨ho1, ho2⟩ := out_no hout
      go_upto_if 121 with (first
        | (go_at_call 20; go_must (refine (nearest_c _ _).mono ?_; rintro e v1 ⟨rfl, hx⟩; clear kc; replace hB := hB.ext (bareN hx rfl rfl rfl rfl); replace hw := hw.trans (bareN hx rfl rfl rfl rfl); clear hx; have kc := hB.1.cell))
        | (go_at_call 21; go_must (refine (sin_c _ _).mono ?_; rintro e v1 ⟨rfl, hx⟩; clear kc; replace hB := hB.ext (bareN hx rfl rfl rfl rfl); replace hw := hw.trans (bareN hx rfl rfl rfl rfl); clear hx; have kc := hB.1.cell))
        | (go_at_call 22; go_must (refine (cos_c _ _).mono ?_; rintro e v1 ⟨rfl, hx⟩; clear kc; replace hB := hB.ext (bareN hx rfl rfl rfl rfl); replace hw := hw.trans (bareN hx rfl rfl rfl rfl); clear hx; have kc := hB.1.cell))
        | (go_at_call 23; go_must (refine (sqrt_c _ _).mono ?_; rintro e v1 ⟨rss, rfl, hrss, hx⟩; clear kc; replace hB := hB.ext (bareN hx rfl rfl rfl rfl); replace hw := hw.trans (bareN hx rfl rfl rfl rfl); clear hx; have kc := hB.1.cell))
        | (with_reducible refine upon_fl rfl ?_; intro y ny hy))
      rename_i y12 n12 h12 ysc nsc hsc ysd nsd hsd yt nt ht yw nw hyw yww nww hww ytt ntt htt ysu nsu hsu yuu nuu huu ycc ncc hcc ycl ncl hcl KK hKK
      have et : can yt = V.t (can rl) := by rw [ht, h12, hsd, hsc]; simp only [fbin, LineV.t, LineV.cl, ec1, es1, ec2, es2]
      have ew : can yw = V.w (can rl) := by rw [hyw]; simp only [fbin, LineV.w, LineV.sl, ec2]
      have ess : can rss = V.ss (can rl) := by rw [hrss, hsu, hww, htt]; simp only [fbin, LineV.ss, et, ew]
      have ecs : can y = V.cs (can rl) := by rw [hy, huu, hcl, hcc]; simp only [fbin, LineV.cs, LineV.cl, ec1, es1, ec2, es2]
      clear ht h12 hsd hsc hyw hrss hsu hww htt hy huu hcl hcc
      go_cut [23] (fun s wx => ∃ y, s = .float .f64 y ∧ can y = V.sa (can rl) ∧ Bks wx [(w.heap.size, 35, #[Value.float .f64 a, Value.float .f64 f]), (w.heap.size + 1, 26, #[Value.int .i64 lonA, Value.int .i64 latA]), (w.heap.size + 1 + 1, 26, #[Value.int .i64 lonB, Value.int .i64 latB]), (w.heap.size + 1 + 1 + 1, 30, #[Value.float .f64 0, Value.int .i64 0, Value.int .i64 0])] ∧ Ext w wx)
      case first =>
        go_wp2_with (first | (with_reducible refine upon_fl rfl ?_; intro z nz hz))
        all_goals go_meet
        · rename_i hcond za na ha zb nb hb
          exact ⟨_, rfl, by rw [hz, hb, ha]; unfold LineV.sa; rw [← ess, ite_ne hcond]; simp only [fbin, LineV.sl, ec1, ec2], hB, by repeat (first | exact hw | refine Ext.drewN ?_ _)⟩
        · rename_i hcond
          exact ⟨_, rfl, by rw [can0]; unfold LineV.sa; rw [← ess, ite_eq hcond], hB, by repeat (first | exact hw | refine Ext.drewN ?_ _)⟩
      case rest =>
        clear hB hw kc
        obtain ⟨ysa, rfl, esa, hB, hw⟩ := hcut
        have kc := hB.1.cell
        go_upto_if 134 with (first | (with_reducible refine upon_fl rfl ?_; intro z nz hz))
        rename_i zq nq hq K2 hK2
        have eca : can z = V.ca (can rl) := by rw [hz, hq]; simp only [fbin, LineV.ca, esa]
        clear hz hq
        go_cut [24] (fun s wx => ∃ y, s = .float .f64 y ∧ can y = V.cm (can rl) ∧ Bks wx [(w.heap.size, 35, #[Value.float .f64 a, Value.float .f64 f]), (w.heap.size + 1, 26, #[Value.int .i64 lonA, Value.int .i64 latA]), (w.heap.size + 1 + 1, 26, #[Value.int .i64 lonB, Value.int .i64 latB]), (w.heap.size + 1 + 1 + 1, 30, #[Value.float .f64 0, Value.int .i64 0, Value.int .i64 0])] ∧ Ext w wx)
        case first =>
          go_wp2_with (first | (with_reducible refine upon_fl rfl ?_; intro q nq hq))
          all_goals go_meet
          · rename_i hcond qa na ha qb nb hb qc nc hc
            exact ⟨_, rfl, by rw [hq, hc, hb, ha]; unfold LineV.cm; rw [← eca, ite_ne hcond]; simp only [fbin, ecs, es1, es2], hB, by repeat (first | exact hw | refine Ext.drewN ?_ _)⟩
          · rename_i hcond
            exact ⟨_, rfl, by rw [can0]; unfold LineV.cm; rw [← eca, ite_eq hcond], hB, by repeat (first | exact hw | refine Ext.drewN ?_ _)⟩
        case rest =>
          clear hB hw kc
          obtain ⟨ycm, rfl, ecm, hB, hw⟩ := hcut
          have kc := hB.1.cell
          go_upto_if 149 with (first
            | (go_at_call 24; go_must (refine (angle_c _ _ _).mono ?_; rintro e v1 ⟨rfl, hx⟩; clear kc; replace hB := hB.ext (bareN hx rfl rfl rfl rfl); replace hw := hw.trans (bareN hx rfl rfl rfl rfl); clear hx; have kc := hB.1.cell)))
          have hang : angleP (can rss) (can y) = angleP (V.ss (can rl)) (V.cs (can rl)) := by rw [ess, ecs]
          go_cut [25, 27, 28] (fun s _ _ wx => ∃ y, s = .float .f64 y ∧ can y = V.o (can rl) ∧ Bks wx [(w.heap.size, 35, #[Value.float .f64 a, Value.float .f64 f]), (w.heap.size + 1, 26, #[Value.int .i64 lonA, Value.int .i64 latA]), (w.heap.size + 1 + 1, 26, #[Value.int .i64 lonB, Value.int .i64 latB]), (w.heap.size + 1 + 1 + 1, 30, #[Value.float .f64 0, Value.int .i64 0, Value.int .i64 0])] ∧ Ext w wx)
          case first =>
            go_wp2_with (first | (with_reducible refine upon_fl rfl ?_; intro q nq hq))
            all_goals go_meet
            · exact ⟨_, rfl, by rw [hq]; simp only [fbin, LineV.o, radP], hB, by repeat (first | exact hw | refine Ext.drewN ?_ _)⟩
            · rename_i hcond
              have h0 : (angleP (V.ss (can rl)) (V.cs (can rl))).2 = false := by simpa [hang] using hcond
              exact ⟨_, rfl, by rw [can0]; unfold LineV.o; rw [angle_zero h0, rad_zero], hB, by repeat (first | exact hw | refine Ext.drewN ?_ _)⟩
          case rest =>
            clear hB hw kc
            obtain ⟨yo, rfl, eo, hB, hw⟩ := hcut
            have kc := hB.1.cell
            rcases HR.out with ⟨k, rfl, hk, hgo⟩ | ⟨rfl, hgo⟩
            · have HGo := Lib.hid hgo
              clear hgo HR
              by_cases hk60 : k = 60
              · subst hk60
                exact absurd (show res = none from by rw [← HGo.out]; rfl) HN.out
              · go_wp2_with fail
                clear kc
                refine wp_region_all (fun g args v => (g = 29 ∧ SpThird args v) ∨ (g = 28 ∧ SpLong args v)) (by kernel_rfl) (by kernel_rfl) ?_
                repeat (first
                  | (refine wpR_op rfl (fun w1 hx K hK => ?_); have kc := (hB.1.ext (bareN hx rfl rfl rfl rfl)).cell; go_simp; refine hK _ ?_; clear hK K kc hx w1)
                  | (refine wpR_op rfl (fun w1 hx K hK => ?_); go_simp; refine rel_fl rfl ?_; intro rn hrn; refine hK _ ?_; clear hK K hx w1)
                  | (refine wpR_op rfl (fun w1 hx K hK => ?_); go_simp; refine rel_call (FlR.call (third_c _ _ _ _)) (fun v => ?_) (fun v hv => ?_); (simp [spThird_iff]); obtain ⟨rt, rfl, hrt⟩ := hv; refine hK _ ?_; clear hK K hx w1)
                  | (refine wpR_op rfl (fun w1 hx K hK => ?_); go_simp; refine rel_call (FlR.call (longer_c _ _ _ _ _ _ _ _ _)) (fun v => ?_) (fun v hv => ?_); (simp [spLong_iff]); obtain ⟨rg, rfl, hrg⟩ := hv; refine hK _ ?_; clear hK K hx w1))
                refine wpR_nil ?_
                intro w4 hx _
                replace hB := hB.ext (bareN hx rfl rfl rfl rfl)
                replace hw := hw.trans (bareN hx rfl rfl rfl rfl)
                clear hx
                have enx : can rn = V.next (can rl) := by rw [hrn]; simp only [LineV.next, fbin, *]
                clear hrn hrg hrt
                go_wp2_with (first | (with_reducible refine upon_fl rfl ?_; intro q nq hq))
                · rename_i hc1 hc2
                  have hk1 : 60 - k = (59 - k) + 1 := by omega
                  have hcl := close_of (v := V) (x := can rl) (d := q) (by rw [hq]; simp only [fbin, enx])
                  have hb : V.close (can rl) = true := by rw [hcl]; simpa using hc2
                  exact ⟨⟨rn, -1, rfl, rfl, .inr ⟨rfl, by rw [enx, ← HGo.out, hk1]; exact (go_near _ hout hb).symm⟩, hB, by repeat (first | exact hw | refine Ext.drewN ?_ _)⟩, by have hk1 : ¬ ((k : Int) < 0) := (by omega); simp [intOf, hk1]; omega⟩
                · rename_i hc1 hc2
                  have hk1 : 60 - k = (60 - (k + 1)) + 1 := by omega
                  have hcl := close_of (v := V) (x := can rl) (d := q) (by rw [hq]; simp only [fbin, enx])
                  have hb : V.close (can rl) = false := by rw [hcl, Bool.and_eq_false_iff, Bool.or_eq_false_iff, Bool.or_eq_false_iff]; exact hc2
                  exact ⟨⟨rn, (k : Int) + 1, rfl, rfl, .inl ⟨k + 1, by simp, by omega, by rw [enx, ← HGo.out, hk1]; exact (go_far _ hout hb).symm⟩, hB, by repeat (first | exact hw | refine Ext.drewN ?_ _)⟩, by have hk1 : ¬ ((k : Int) < 0) := (by omega); have hk2 : ¬ ((k : Int) + 1 < 0) := (by omega); simp [intOf, hk1, hk2]; omega⟩
                · rename_i hc1
                  have hk1 : 60 - k = (60 - (k + 1)) + 1 := by omega
                  have hcl := close_of (v := V) (x := can rl) (d := q) (by rw [hq]; simp only [fbin, enx])
                  have hb : V.close (can rl) = false := by
                    rw [hcl, Bool.and_eq_false_iff]; left
                    rw [Bool.or_eq_false_iff, beq_eq_false_iff_ne, beq_eq_false_iff_ne]
                    exact ⟨fun h => hc1 (.inl h), fun h => hc1 (.inr h)⟩
                  exact ⟨⟨rn, (k : Int) + 1, rfl, rfl, .inl ⟨k + 1, by simp, by omega, by rw [enx, ← HGo.out, hk1]; exact (go_far _ hout hb).symm⟩, hB, by repeat (first | exact hw | refine Ext.drewN ?_ _)⟩, by have hk1 : ¬ ((k : Int) < 0) := (by omega); have hk2 : ¬ ((k : Int) + 1 < 0) := (by omega); simp [intOf, hk1, hk2]; omega⟩
            · rw [hout] at hgo
              have hres : res = some (can rl) := hgo.symm
              have hpost := HS.out _ hres
              clear hgo HR
              have HOu : Hid (∀ r1 r2, can r1 = V.w (can rl) → can r2 = V.t (can rl) → (angleP (can r1) (can r2)).1 = V.outA (can rl)) := Lib.hid (by intro r1 r2 e1 e2; rw [e1, e2]; rfl)
              have HIn : Hid (∀ r1 r2, can r1 = fmul V.cu1 (can (sinP (nearP (can rl)))) → can r2 = fsub (fmul (fmul V.cu1 V.su2) (can (cosP (nearP (can rl))))) (fmul V.su1 V.cu2) → (angleP (can r1) (can r2)).1 = V.inA (can rl)) :=
                Lib.hid (by intro r1 r2 e1 e2; rw [e1, e2]; rfl)
              go_wp2_with (first
                | (go_at_call 25; go_must (refine (of_c _ _ _ _).mono ?_; rintro e v1 ⟨rp, rq, rfl, hrp, hrq, hx⟩; clear kc; replace hB := hB.ext (bareN hx rfl rfl rfl rfl); replace hw := hw.trans (bareN hx rfl rfl rfl rfl); clear hx; have kc := hB.1.cell))
                | (refine wpList_own rfl 59 _ _ rfl _ _ rfl rfl _ _ (Blk.new _ _ _) (by kernel_rfl) rfl (by simp [Value.oneCell']) ?_; go_must (intro u bn en sn; replace hw := en _ (by repeat (first | exact hw | refine Ext.drewN ?_ _ | refine Ext.alloc ?_ _)) hw.size; replace hB := (hB.keep _ sn).cons bn; clear kc bn en sn)))
              refine wp_region_head 34 (fun g args v => (g = 26 ∧ SpOff args v) ∨ (g = 27 ∧ SpA1 args v)) (by kernel_rfl) (by kernel_rfl) ?_
              simp only [List.take_succ_cons, List.take_zero, List.drop_succ_cons, List.drop_zero]
              repeat (first
                | (refine wpR_op rfl (fun w1 hx K hK => ?_); have kc := And.intro (hB.1.ext (bareN hx rfl rfl rfl rfl)).cell (hB.2.1.ext (bareN hx rfl rfl rfl rfl)).cell; go_simp; refine hK _ ?_; clear hK K kc hx w1)
                | (refine wpR_op rfl (fun w1 hx K hK => ?_); go_simp; refine rel_fl rfl ?_; intro rn hrn; refine hK _ ?_; clear hK K hx w1)
                | (refine wpR_op rfl (fun w1 hx K hK => ?_); go_simp; refine rel_call (FlR.call (off_c _ _ _ _ _ _)) (fun v => ?_) (fun v hv => ?_); (simp [spOff_iff]); obtain ⟨rt, rfl, hrt⟩ := hv; refine hK _ ?_; clear hK K hx w1)
                | (refine wpR_op rfl (fun w1 hx K hK => ?_); go_simp; refine rel_call (ExR.call (pathAngle_c _ _ _)) (fun v => ?_) (fun v hv => ?_); (simp [spA1_iff]); subst hv; (first | rw [HOu.out _ _ ew et] | rw [HIn.out _ _ (by simp only [*, fbin]) (by simp only [*, fbin])]); refine hK _ ?_; clear hK K hx w1))
              refine wpR_nil ?_
              intro w4 hx _
              replace hB := hB.ext (bareN hx rfl rfl rfl rfl)
              replace hw := hw.trans (bareN hx rfl rfl rfl rfl)
              clear hx
              refine wpList_own rfl 30 _ _ rfl _ _ rfl rfl _ _ (show Blk _ _ _ _ from hB.2.2.2.2.1) (by kernel_rfl) rfl (by simp [Value.oneCell']) ?_
              intro w5 hb4 hk5 _
              have hw5 : Ext w w5 := hk5 w hw (by omega)
              have d4 := hb4.cell
              clear hB hk5
              go_wp2_with fail
              rename_i a162 b162 a163 b163 a166 b166 a173 b173 a174 b174 a180 b180 a183 b183 a185 b185 a188 b188 aT aT2
              have efar : can a174 = V.far (can rl) := by rw [b174, b173, b166, b163, b162]; simp only [LineV.far, fbin, hrt, hrp, hrq, eca, eo, ess, ecs, ecm, hVf, hVa]
              exact bodyPost_ret (v := .tuple #[lineV a174 (V.outA (can rl)) (V.inA (can rl)), .nilIface]) (by simp [results, Tryd.results6, go_sem, d4]) rfl (hpost _ _ ⟨a174, _, rfl, efar, .nil, hw5⟩)
theorem lined_go : ∃ x, lined0.go 60 lined0.all = some x ∧ D.order (lined0.far x) 4654619748468785152 = some .gt ∧ D.order (lined0.far x) 4654624146515296256 = some .lt := by
  have h := lined_true
  unfold linedB at h
  cases hg : lined0.go 60 lined0.all with
  | none => rw [hg] at h; cases h
  | some x =>
    rw [hg] at h
    simp only [Bool.and_eq_true, beq_iff_eq] at h
    exact ⟨x, rfl, h.1, h.2⟩
/-- the line that is found -/
theorem between_yes {A : Nat → Addr} (v : LineV) (w : World) (h : okG v.a v.f = true) (h1 : v.latA ≤ 90000000000) (h2 : -90000000000 ≤ v.latA) (h3 : v.latB ≤ 90000000000) (h4 : -90000000000 ≤ v.latB) {x : Nat} (hg : v.go 60 v.all = some x) :
    Calls Tryd.prog 6 #[globeV v.a v.f, placeV v.lonA v.latA, placeV v.lonB v.latB] w (LineR A (v.far x) (v.outA x) (v.inA x) 0 w) :=
  between_ok0 v w h h1 h2 h3 h4 _ hg _ (fun e => by cases e) (fun _ e _ _ h => by cases e; exact h)
set_option maxHeartbeats 4000000 in
theorem lined_c0 {A : Nat → Addr} (w : World) : Calls Tryd.prog 4 #[] w (ExR (.bool true) w) := by
  obtain ⟨x, hI, ho1, ho2⟩ := lined_go
  have HB : Hid (∀ w, Calls Tryd.prog 6 #[globeV 4652007308841189376 0, placeV 0 0, placeV 90000000000 0] w (LineR A (lined0.far x) (lined0.outA x) (lined0.inA x) 0 w)) := fun w => between_yes lined0 w lined_ok (by decide) (by decide) (by decide) (by decide) hI
  clear hI
  generalize lined0.far x = FAR at *
  generalize lined0.outA x = O at *
  generalize lined0.inA x = I at *
  go_enter Tryd.func4, Tryd.ntmps4
  go_wp2_with (first
    | (go_at_call 6; go_must (refine (HB.out _).mono ?_; rintro e w1 ⟨fr, ev, rfl, hfr, he, hw⟩; cases he; have q1 : FloatKind.f64.format.order fr 4654619748468785152 = some .gt := ((order_canL fr (c := 4654619748468785152) (by decide +kernel)).symm.trans (by rw [hfr]; exact ho1)); have q2 : FloatKind.f64.format.order fr 4654624146515296256 = some .lt := ((order_canL fr (c := 4654624146515296256) (by decide +kernel)).symm.trans (by rw [hfr]; exact ho2)); clear ho1 ho2))
    | (refine wpList_own rfl 30 _ _ rfl _ _ rfl rfl _ _ (Blk.new _ _ _) (by kernel_rfl) rfl (by simp [Value.oneCell']) ?_; go_must (intro u bn en sn; replace hw := en _ (hw.alloc _) hw.size; have kc := bn.cell; clear bn en sn)))
  go_ret
  exact ⟨rfl, hw⟩
end Go.Proofs.YtfhpnkmpjijebaaDoor
