/- Walk: the geodesic between two places, package path's. -/
import Derived.Test.YtegbkidjehjhmaaDoorM9
import Derived.Test.YtegbkidjehjhmaaDoorM5
namespace Go.Proofs.YtegbkidjehjhmaaDoor
open Go.RowKit Go.Fp Go.Rel
set_option maxRecDepth 20000

theorem angle_zero {y x : Nat} (h : (angleP y x).2 = false) : (angleP y x).1 = 0 := by
  unfold angleP at *
  by_cases hc : (!finP x || !finP y || (feq x 0 && feq y 0)) = true
  · rw [if_pos hc]
  · rw [if_neg hc] at h
    exfalso
    dsimp only at h
    split at h
    · simp at h
    · split at h
      · simp at h
      · split at h <;> simp at h
theorem rad_zero : radP 0 = 0 := by decide +kernel
def SpOff (args : Array Value) (v : Value) : Prop := ∃ p q ss cs cm : Nat, args = #[.agg #[.float .f64 p, .float .f64 q], .float .f64 ss, .float .f64 cs, .float .f64 cm] ∧ isFl (offP (can q) (can ss) (can cs) (can cm)) v
theorem spOff_iff (p q ss cs cm : Nat) (v : Value) : SpOff #[.agg #[.float .f64 p, .float .f64 q], .float .f64 ss, .float .f64 cs, .float .f64 cm] v ↔ isFl (offP (can q) (can ss) (can cs) (can cm)) v := by
  unfold SpOff
  exact ⟨fun ⟨_, _, _, _, _, h, k⟩ => by simp at h; obtain ⟨⟨rfl, rfl⟩, rfl, rfl, rfl⟩ := h; exact k, fun h => ⟨_, _, _, _, _, rfl, h⟩⟩
def SpA1 (args : Array Value) (v : Value) : Prop := ∃ y x : Nat, args = #[.float .f64 y, .float .f64 x] ∧ v = .int .i64 (angleP (can y) (can x)).1
theorem spA1_iff (y x : Nat) (v : Value) : SpA1 #[.float .f64 y, .float .f64 x] v ↔ v = .int .i64 (angleP (can y) (can x)).1 := by
  unfold SpA1
  exact ⟨fun ⟨_, _, h, k⟩ => by simp at h; obtain ⟨rfl, rfl⟩ := h; exact k, fun h => ⟨_, _, rfl, h⟩⟩

set_option maxHeartbeats 32000000 in
theorem between_ok {A : Nat → Addr} (v : LineV) (w : World) (h8 : World8 A w) (h : okG v.a v.f = true) (h1 : v.latA ≤ 90000000000) (h2 : -90000000000 ≤ v.latA) (h3 : v.latB ≤ 90000000000) (h4 : -90000000000 ≤ v.latB) (res : Option Nat) (hres : v.go 60 v.all = res)
    (post : Ending → World → Prop) (hn : res = none → ∀ e w', LineR A 0 0 0 6 w e w' → post e w') (hs : ∀ x, res = some x → ∀ e w', LineR A (v.far x) (v.outA x) (v.inA x) 0 w e w' → post e w') :
    Calls Tryd.prog 13 #[globeV v.a v.f, placeV v.lonA v.latA, placeV v.lonB v.latB] w post := by
  have HG : Hid (∀ w, World8 A w → Calls Tryd.prog 39 #[globeV v.a v.f] w (ExR .nilIface w)) := fun w h' => by simpa [h] using valid_c v.a v.f w h'
  have HLA : Hid (∀ w, Calls Tryd.prog 40 #[.int .i64 v.latA] w (ExR (.bool true) w)) := fun w => by simpa [h1, h2] using pathLat_c v.latA w
  have HLB : Hid (∀ w, Calls Tryd.prog 40 #[.int .i64 v.latB] w (ExR (.bool true) w)) := fun w => by simpa [h3, h4] using pathLat_c v.latB w
  clear h
  obtain ⟨a, f, lonA, latA, lonB, latB⟩ := v
  simp only [] at *
  have W1 : IntKind.i64.wrap (normP lonB - normP lonA) = normP lonB - normP lonA := IntWalk.i64_in _ ⟨by have := normP_lo lonB; have := normP_hi lonA; omega, by have := normP_hi lonB; have := normP_lo lonA; omega⟩
  obtain ⟨V, hV⟩ : ∃ V, V = LineV.mk a f lonA latA lonB latB := ⟨_, rfl⟩
  rw [← hV] at hres hs
  have Hres := Lib.hid hres
  have HN := Lib.hid hn
  have HS := Lib.hid hs
  have HV := Lib.hid hV
  have hVf : V.f = f := by rw [hV]
  have hVa : V.a = a := by rw [hV]
  clear hres hn hs hV
  have tk : Hid True := trivial
  have tl : Hid True := trivial
  go_enter Tryd.func13, Tryd.ntmps13
  go_wp2_with (first
    | (go_at_call 39; go_must (refine (HG.out _ (h8.ext (by repeat (first | exact Ext.refl _ | refine Ext.alloc ?_ _)))).mono ?_; rintro e w1 ⟨rfl, hx1⟩; obtain ⟨hB, hw⟩ := ext4 hx1; clear hx1; have kc := And.intro hB.1.cell (And.intro hB.2.1.cell hB.2.2.1.cell)))
    | (go_at_call 40; clear tl; go_must (refine (HLA.out _).mono ?_; rintro e v1 ⟨rfl, hx⟩; clear kc; replace hB := hB.ext (bareN hx rfl rfl rfl rfl); replace hw := hw.trans (bareN hx rfl rfl rfl rfl); clear hx; have kc := And.intro hB.1.cell (And.intro hB.2.1.cell hB.2.2.1.cell)))
    | (go_at_call 40; go_must (refine (HLB.out _).mono ?_; rintro e v1 ⟨rfl, hx⟩; clear kc; replace hB := hB.ext (bareN hx rfl rfl rfl rfl); replace hw := hw.trans (bareN hx rfl rfl rfl rfl); clear hx; have kc := And.intro hB.1.cell (And.intro hB.2.1.cell hB.2.2.1.cell)))
    | (go_at_call 41; clear tk; go_must (refine (reduced_c _ _ _ _).mono ?_; rintro e v1 ⟨rc1, rs1, rfl, hc1, hs1, hx⟩; clear kc; replace hB := hB.ext (bareN hx rfl rfl rfl rfl); replace hw := hw.trans (bareN hx rfl rfl rfl rfl); clear hx; have kc := And.intro hB.1.cell (And.intro hB.2.1.cell hB.2.2.1.cell)))
    | (go_at_call 41; go_must (refine (reduced_c _ _ _ _).mono ?_; rintro e v1 ⟨rc2, rs2, rfl, hc2, hs2, hx⟩; clear kc; replace hB := hB.ext (bareN hx rfl rfl rfl rfl); replace hw := hw.trans (bareN hx rfl rfl rfl rfl); clear hx; have kc := And.intro hB.1.cell (And.intro hB.2.1.cell hB.2.2.1.cell))))
  clear kc
  refine wp_region_all (fun g args v => (g = 43 ∧ SpNorm normP args v) ∨ (g = 42 ∧ SpNorm signP args v)) (by kernel_rfl) (by kernel_rfl) ?_
  repeat (first
    | (refine wpR_op rfl (fun w1 hx K hK => ?_); have kc := And.intro (hB.2.1.ext (bareN hx rfl rfl rfl rfl)).cell (hB.2.2.1.ext (bareN hx rfl rfl rfl rfl)).cell; go_simp; refine hK _ ?_; clear hK K kc hx w1)
    | (refine wpR_op rfl (fun w1 hx K hK => ?_); go_simp; refine rel_fl rfl ?_; intro r hr; refine hK _ ?_; clear hK K hx w1)
    | (refine wpR_op rfl (fun w1 hx K hK => ?_); go_simp; refine rel_call (same_call (norm_c _ _)) (fun v => ?_) (fun v hv => ?_); (simp [spNorm_iff]); subst hv; refine hK _ ?_; clear hK K hx w1)
    | (refine wpR_op rfl (fun w1 hx K hK => ?_); go_simp; refine rel_call (ExR.call (signed_c _ _)) (fun v => ?_) (fun v hv => ?_); (simp [spNorm_iff]); subst hv; refine hK _ ?_; clear hK K hx w1))
  refine wpR_nil ?_
  intro w2 hx _
  replace hB := hB.ext (bareN hx rfl rfl rfl rfl)
  replace hw := hw.trans (bareN hx rfl rfl rfl rfl)
  clear hx
  have eall : can r = V.all := by rw [HV.out]; simp only [LineV.all, radP, *, fbin]
  have ec1 : can rc1 = V.cu1 := by rw [HV.out, hc1]; rfl
  have es1 : can rs1 = V.su1 := by rw [HV.out, hs1]; rfl
  have ec2 : can rc2 = V.cu2 := by rw [HV.out, hc2]; rfl
  have es2 : can rs2 = V.su2 := by rw [HV.out, hs2]; rfl
  clear hr hc1 hc2 hs1 hs2
  go_wp2_with fail
  obtain ⟨L, hL⟩ : ∃ l, l = [(w.heap.size, 42, #[Value.float .f64 a, Value.float .f64 f]), (w.heap.size + 1, 35, #[Value.int .i64 lonA, Value.int .i64 latA]), (w.heap.size + 1 + 1, 35, #[Value.int .i64 lonB, Value.int .i64 latB]), (w.heap.size + 1 + 1 + 1, 37, #[Value.float .f64 0, Value.int .i64 0, Value.int .i64 0])] := ⟨_, rfl⟩
  rw [← hL] at hB
  go_loopw [14, 15] (fun l n wr => ∃ (rl : Nat) (nn : Int), l = .float .f64 rl ∧ n = .int .i64 nn ∧
      ((∃ k : Nat, nn = k ∧ k ≤ 60 ∧ V.go (60 - k) (can rl) = res) ∨ (nn = -1 ∧ (if LineV.out (can rl) then none else some (can rl)) = res)) ∧ Bks wr L ∧ Ext w wr)
    (fun _ n _ => if intOf n < 0 then 0 else 62 - (intOf n).toNat)
  case atStart => exact ⟨r, 0, rfl, rfl, .inl ⟨0, rfl, by omega, by rw [eall]; exact Hres.out⟩, hB, by repeat (first | exact hw | refine Ext.drewN ?_ _)⟩
  case round =>
    clear hB hw
    obtain ⟨rl, nn, rfl, rfl, hrel, hB, hw⟩ := hrel
    have HR := Lib.hid hrel
    clear hrel
    subst hL
    have kc := hB.1.cell
    cases hout : LineV.out (can rl) with
    | true =>
      have hno : res = none := by
        rcases HR.out with ⟨k, _, _, h⟩ | ⟨_, h⟩
        · rw [← h, go_out _ hout]
        · rw [← h, hout]; rfl
      have hpost := HN.out hno
      clear HR
      rcases out_yes hout with ho1 | ⟨ho1, ho2⟩
      all_goals
        go_wp2_with fail
        have hl0 := cell_lt (h8.errs.cell 1 (by decide))
        have kg := (h8.ext hw).errs.cell 1 (by decide)
        have hne : ¬ (1 = w.heap.size + 1 + 1 + 1) := by omega
        have hne' : ¬ (w.heap.size + 1 + 1 + 1 = 1) := by omega
        have hR := hB.2.2.2.1
        have d3 := hR.cell
        have f3 := hR.frozen
        have hlt := hR.lt
        clear kc hB
        go_region
        all_goals go_wp2
        all_goals exact bodyPost_ret (v := .tuple #[lineV 0 0 0, errV (A 1)]) (by simp [results, Tryd.results13, go_sem, d3]) rfl (hpost _ _ ⟨0, _, rfl, can0, .none, (by repeat (first | exact hw | refine Ext.drew ?_ | refine Ext.drewN ?_ _ | refine Ext.setCell ?_ (by simp; omega) _))⟩)

    | false =>
      obtain ⟨ho1, ho2⟩ := out_no hout
      go_upto_if 121 with (first
        | (go_at_call 44; go_must (refine (nearest_c _ _).mono ?_; rintro e v1 ⟨rfl, hx⟩; clear kc; replace hB := hB.ext (bareN hx rfl rfl rfl rfl); replace hw := hw.trans (bareN hx rfl rfl rfl rfl); clear hx; have kc := hB.1.cell))
        | (go_at_call 45; go_must (refine (sin_c _ _).mono ?_; rintro e v1 ⟨rfl, hx⟩; clear kc; replace hB := hB.ext (bareN hx rfl rfl rfl rfl); replace hw := hw.trans (bareN hx rfl rfl rfl rfl); clear hx; have kc := hB.1.cell))
        | (go_at_call 46; go_must (refine (cos_c _ _).mono ?_; rintro e v1 ⟨rfl, hx⟩; clear kc; replace hB := hB.ext (bareN hx rfl rfl rfl rfl); replace hw := hw.trans (bareN hx rfl rfl rfl rfl); clear hx; have kc := hB.1.cell))
        | (go_at_call 47; go_must (refine (sqrt_c _ _).mono ?_; rintro e v1 ⟨rss, rfl, hrss, hx⟩; clear kc; replace hB := hB.ext (bareN hx rfl rfl rfl rfl); replace hw := hw.trans (bareN hx rfl rfl rfl rfl); clear hx; have kc := hB.1.cell))
        | (with_reducible refine upon_fl rfl ?_; intro y ny hy))
      rename_i y12 n12 h12 ysc nsc hsc ysd nsd hsd yt nt ht yw nw hyw yww nww hww ytt ntt htt ysu nsu hsu yuu nuu huu ycc ncc hcc ycl ncl hcl KK hKK
      have et : can yt = V.t (can rl) := by rw [ht, h12, hsd, hsc]; simp only [fbin, LineV.t, LineV.cl, ec1, es1, ec2, es2]
      have ew : can yw = V.w (can rl) := by rw [hyw]; simp only [fbin, LineV.w, LineV.sl, ec2]
      have ess : can rss = V.ss (can rl) := by rw [hrss, hsu, hww, htt]; simp only [fbin, LineV.ss, et, ew]
      have ecs : can y = V.cs (can rl) := by rw [hy, huu, hcl, hcc]; simp only [fbin, LineV.cs, LineV.cl, ec1, es1, ec2, es2]
      clear ht h12 hsd hsc hyw hrss hsu hww htt hy huu hcl hcc
      go_cut [23] (fun s wx => ∃ y, s = .float .f64 y ∧ can y = V.sa (can rl) ∧ Bks wx [(w.heap.size, 42, #[Value.float .f64 a, Value.float .f64 f]), (w.heap.size + 1, 35, #[Value.int .i64 lonA, Value.int .i64 latA]), (w.heap.size + 1 + 1, 35, #[Value.int .i64 lonB, Value.int .i64 latB]), (w.heap.size + 1 + 1 + 1, 37, #[Value.float .f64 0, Value.int .i64 0, Value.int .i64 0])] ∧ Ext w wx)
      case first =>
        go_wp2_with (first | (with_reducible refine upon_fl rfl ?_; intro z nz hz))
        all_goals go_meet
        · rename_i hcond za na ha zb nb hb
          exact ⟨_, rfl, by rw [hz, hb, ha]; unfold LineV.sa; rw [← ess, ite_ne hcond]; simp only [fbin, LineV.sl, ec1, ec2], hB, by repeat (first | exact hw | refine Ext.drewN ?_ _)⟩
        · rename_i hcond
          exact ⟨_, rfl, by rw [can0]; unfold LineV.sa; rw [← ess, ite_eq hcond], hB, by repeat (first | exact hw | refine Ext.drewN ?_ _)⟩
      case rest =>
        clear hB hw kc
        obtain ⟨ysa, rfl, esa, hB, hw⟩ := hcut
        have kc := hB.1.cell
        go_upto_if 134 with (first | (with_reducible refine upon_fl rfl ?_; intro z nz hz))
        rename_i zq nq hq K2 hK2
        have eca : can z = V.ca (can rl) := by rw [hz, hq]; simp only [fbin, LineV.ca, esa]
        clear hz hq
        go_cut [24] (fun s wx => ∃ y, s = .float .f64 y ∧ can y = V.cm (can rl) ∧ Bks wx [(w.heap.size, 42, #[Value.float .f64 a, Value.float .f64 f]), (w.heap.size + 1, 35, #[Value.int .i64 lonA, Value.int .i64 latA]), (w.heap.size + 1 + 1, 35, #[Value.int .i64 lonB, Value.int .i64 latB]), (w.heap.size + 1 + 1 + 1, 37, #[Value.float .f64 0, Value.int .i64 0, Value.int .i64 0])] ∧ Ext w wx)
        case first =>
          go_wp2_with (first | (with_reducible refine upon_fl rfl ?_; intro q nq hq))
          all_goals go_meet
          · rename_i hcond qa na ha qb nb hb qc nc hc
            exact ⟨_, rfl, by rw [hq, hc, hb, ha]; unfold LineV.cm; rw [← eca, ite_ne hcond]; simp only [fbin, ecs, es1, es2], hB, by repeat (first | exact hw | refine Ext.drewN ?_ _)⟩
          · rename_i hcond
            exact ⟨_, rfl, by rw [can0]; unfold LineV.cm; rw [← eca, ite_eq hcond], hB, by repeat (first | exact hw | refine Ext.drewN ?_ _)⟩
        case rest =>
          clear hB hw kc
          obtain ⟨ycm, rfl, ecm, hB, hw⟩ := hcut
          have kc := hB.1.cell
          go_upto_if 149 with (first
            | (go_at_call 48; go_must (refine (angle_c _ _ _).mono ?_; rintro e v1 ⟨rfl, hx⟩; clear kc; replace hB := hB.ext (bareN hx rfl rfl rfl rfl); replace hw := hw.trans (bareN hx rfl rfl rfl rfl); clear hx; have kc := hB.1.cell)))
          have hang : angleP (can rss) (can y) = angleP (V.ss (can rl)) (V.cs (can rl)) := by rw [ess, ecs]
          go_cut [25, 27, 28] (fun s _ _ wx => ∃ y, s = .float .f64 y ∧ can y = V.o (can rl) ∧ Bks wx [(w.heap.size, 42, #[Value.float .f64 a, Value.float .f64 f]), (w.heap.size + 1, 35, #[Value.int .i64 lonA, Value.int .i64 latA]), (w.heap.size + 1 + 1, 35, #[Value.int .i64 lonB, Value.int .i64 latB]), (w.heap.size + 1 + 1 + 1, 37, #[Value.float .f64 0, Value.int .i64 0, Value.int .i64 0])] ∧ Ext w wx)
          case first =>
            go_wp2_with (first | (with_reducible refine upon_fl rfl ?_; intro q nq hq))
            all_goals go_meet
            · exact ⟨_, rfl, by rw [hq]; simp only [fbin, LineV.o, radP], hB, by repeat (first | exact hw | refine Ext.drewN ?_ _)⟩
            · rename_i hcond
              have h0 : (angleP (V.ss (can rl)) (V.cs (can rl))).2 = false := by simpa [hang] using hcond
              exact ⟨_, rfl, by rw [can0]; unfold LineV.o; rw [angle_zero h0, rad_zero], hB, by repeat (first | exact hw | refine Ext.drewN ?_ _)⟩
          case rest =>
            clear hB hw kc
            obtain ⟨yo, rfl, eo, hB, hw⟩ := hcut
            have kc := hB.1.cell
            rcases HR.out with ⟨k, rfl, hk, hgo⟩ | ⟨rfl, hgo⟩
            · have HGo := Lib.hid hgo
              clear hgo HR
              by_cases hk60 : k = 60
              · subst hk60
                have hpost := HN.out (by rw [← HGo.out]; rfl)
                go_wp2_with fail
                have hl0 := cell_lt (h8.errs.cell 1 (by decide))
                have kg := (h8.ext hw).errs.cell 1 (by decide)
                have hne : ¬ (1 = w.heap.size + 1 + 1 + 1) := by omega
                have hne' : ¬ (w.heap.size + 1 + 1 + 1 = 1) := by omega
                have hR := hB.2.2.2.1
                have d3 := hR.cell
                have f3 := hR.frozen
                have hlt := hR.lt
                clear kc hB
                go_region
                all_goals go_wp2
                all_goals exact bodyPost_ret (v := .tuple #[lineV 0 0 0, errV (A 1)]) (by simp [results, Tryd.results13, go_sem, d3]) rfl (hpost _ _ ⟨0, _, rfl, can0, .none, (by repeat (first | exact hw | refine Ext.drew ?_ | refine Ext.drewN ?_ _ | refine Ext.setCell ?_ (by simp; omega) _))⟩)

              · go_wp2_with fail
                clear kc
                refine wp_region_all (fun g args v => (g = 53 ∧ SpThird args v) ∨ (g = 52 ∧ SpLong args v)) (by kernel_rfl) (by kernel_rfl) ?_
                repeat (first
                  | (refine wpR_op rfl (fun w1 hx K hK => ?_); have kc := (hB.1.ext (bareN hx rfl rfl rfl rfl)).cell; go_simp; refine hK _ ?_; clear hK K kc hx w1)
                  | (refine wpR_op rfl (fun w1 hx K hK => ?_); go_simp; refine rel_fl rfl ?_; intro rn hrn; refine hK _ ?_; clear hK K hx w1)
                  | (refine wpR_op rfl (fun w1 hx K hK => ?_); go_simp; refine rel_call (FlR.call (third_c _ _ _ _)) (fun v => ?_) (fun v hv => ?_); (simp [spThird_iff]); obtain ⟨rt, rfl, hrt⟩ := hv; refine hK _ ?_; clear hK K hx w1)
                  | (refine wpR_op rfl (fun w1 hx K hK => ?_); go_simp; refine rel_call (FlR.call (longer_c _ _ _ _ _ _ _ _ _)) (fun v => ?_) (fun v hv => ?_); (simp [spLong_iff]); obtain ⟨rg, rfl, hrg⟩ := hv; refine hK _ ?_; clear hK K hx w1))
                refine wpR_nil ?_
                intro w4 hx _
                replace hB := hB.ext (bareN hx rfl rfl rfl rfl)
                replace hw := hw.trans (bareN hx rfl rfl rfl rfl)
                clear hx
                have enx : can rn = V.next (can rl) := by rw [hrn]; simp only [LineV.next, fbin, *]
                clear hrn hrg hrt
                go_wp2_with (first | (with_reducible refine upon_fl rfl ?_; intro q nq hq))
                · rename_i hc1 hc2
                  have hk1 : 60 - k = (59 - k) + 1 := by omega
                  have hcl := close_of (v := V) (x := can rl) (d := q) (by rw [hq]; simp only [fbin, enx])
                  have hb : V.close (can rl) = true := by rw [hcl]; simpa using hc2
                  exact ⟨⟨rn, -1, rfl, rfl, .inr ⟨rfl, by rw [enx, ← HGo.out, hk1]; exact (go_near _ hout hb).symm⟩, hB, by repeat (first | exact hw | refine Ext.drewN ?_ _)⟩, by have hk1 : ¬ ((k : Int) < 0) := (by omega); simp [intOf, hk1]; omega⟩
                · rename_i hc1 hc2
                  have hk1 : 60 - k = (60 - (k + 1)) + 1 := by omega
                  have hcl := close_of (v := V) (x := can rl) (d := q) (by rw [hq]; simp only [fbin, enx])
                  have hb : V.close (can rl) = false := by rw [hcl, Bool.and_eq_false_iff, Bool.or_eq_false_iff, Bool.or_eq_false_iff]; exact hc2
                  exact ⟨⟨rn, (k : Int) + 1, rfl, rfl, .inl ⟨k + 1, by simp, by omega, by rw [enx, ← HGo.out, hk1]; exact (go_far _ hout hb).symm⟩, hB, by repeat (first | exact hw | refine Ext.drewN ?_ _)⟩, by have hk1 : ¬ ((k : Int) < 0) := (by omega); have hk2 : ¬ ((k : Int) + 1 < 0) := (by omega); simp [intOf, hk1, hk2]; omega⟩
                · rename_i hc1
                  have hk1 : 60 - k = (60 - (k + 1)) + 1 := by omega
                  have hcl := close_of (v := V) (x := can rl) (d := q) (by rw [hq]; simp only [fbin, enx])
                  have hb : V.close (can rl) = false := by
                    rw [hcl, Bool.and_eq_false_iff]; left
                    rw [Bool.or_eq_false_iff, beq_eq_false_iff_ne, beq_eq_false_iff_ne]
                    exact ⟨fun h => hc1 (.inl h), fun h => hc1 (.inr h)⟩
                  exact ⟨⟨rn, (k : Int) + 1, rfl, rfl, .inl ⟨k + 1, by simp, by omega, by rw [enx, ← HGo.out, hk1]; exact (go_far _ hout hb).symm⟩, hB, by repeat (first | exact hw | refine Ext.drewN ?_ _)⟩, by have hk1 : ¬ ((k : Int) < 0) := (by omega); have hk2 : ¬ ((k : Int) + 1 < 0) := (by omega); simp [intOf, hk1, hk2]; omega⟩
            · rw [hout] at hgo
              have hres : res = some (can rl) := hgo.symm
              have hpost := HS.out _ hres
              clear hgo HR
              have HOu : Hid (∀ r1 r2, can r1 = V.w (can rl) → can r2 = V.t (can rl) → (angleP (can r1) (can r2)).1 = V.outA (can rl)) := Lib.hid (by intro r1 r2 e1 e2; rw [e1, e2]; rfl)
              have HIn : Hid (∀ r1 r2, can r1 = fmul V.cu1 (can (sinP (nearP (can rl)))) → can r2 = fsub (fmul (fmul V.cu1 V.su2) (can (cosP (nearP (can rl))))) (fmul V.su1 V.cu2) → (angleP (can r1) (can r2)).1 = V.inA (can rl)) :=
                Lib.hid (by intro r1 r2 e1 e2; rw [e1, e2]; rfl)
              go_wp2_with (first
                | (go_at_call 49; go_must (refine (of_c _ _ _ _).mono ?_; rintro e v1 ⟨rp, rq, rfl, hrp, hrq, hx⟩; clear kc; replace hB := hB.ext (bareN hx rfl rfl rfl rfl); replace hw := hw.trans (bareN hx rfl rfl rfl rfl); clear hx; have kc := hB.1.cell))
                | (refine wpList_own rfl 98 _ _ rfl _ _ rfl rfl _ _ (Blk.new _ _ _) (by kernel_rfl) rfl (by simp [Value.oneCell']) ?_; go_must (intro u bn en sn; replace hw := en _ (by repeat (first | exact hw | refine Ext.drewN ?_ _ | refine Ext.alloc ?_ _)) hw.size; replace hB := (hB.keep _ sn).cons bn; clear kc bn en sn)))
              refine wp_region_head 34 (fun g args v => (g = 50 ∧ SpOff args v) ∨ (g = 51 ∧ SpA1 args v)) (by kernel_rfl) (by kernel_rfl) ?_
              simp only [List.take_succ_cons, List.take_zero, List.drop_succ_cons, List.drop_zero]
              repeat (first
                | (refine wpR_op rfl (fun w1 hx K hK => ?_); have kc := And.intro (hB.1.ext (bareN hx rfl rfl rfl rfl)).cell (hB.2.1.ext (bareN hx rfl rfl rfl rfl)).cell; go_simp; refine hK _ ?_; clear hK K kc hx w1)
                | (refine wpR_op rfl (fun w1 hx K hK => ?_); go_simp; refine rel_fl rfl ?_; intro rn hrn; refine hK _ ?_; clear hK K hx w1)
                | (refine wpR_op rfl (fun w1 hx K hK => ?_); go_simp; refine rel_call (FlR.call (off_c _ _ _ _ _ _)) (fun v => ?_) (fun v hv => ?_); (simp [spOff_iff]); obtain ⟨rt, rfl, hrt⟩ := hv; refine hK _ ?_; clear hK K hx w1)
                | (refine wpR_op rfl (fun w1 hx K hK => ?_); go_simp; refine rel_call (ExR.call (pathAngle_c _ _ _)) (fun v => ?_) (fun v hv => ?_); (simp [spA1_iff]); subst hv; (first | rw [HOu.out _ _ ew et] | rw [HIn.out _ _ (by simp only [*, fbin]) (by simp only [*, fbin])]); refine hK _ ?_; clear hK K hx w1))
              refine wpR_nil ?_
              intro w4 hx _
              replace hB := hB.ext (bareN hx rfl rfl rfl rfl)
              replace hw := hw.trans (bareN hx rfl rfl rfl rfl)
              clear hx
              refine wpList_own rfl 37 _ _ rfl _ _ rfl rfl _ _ (show Blk _ _ _ _ from hB.2.2.2.2.1) (by kernel_rfl) rfl (by simp [Value.oneCell']) ?_
              intro w5 hb4 hk5 _
              have hw5 : Ext w w5 := hk5 w hw (by omega)
              have d4 := hb4.cell
              clear hB hk5
              go_wp2_with fail
              rename_i a162 b162 a163 b163 a166 b166 a173 b173 a174 b174 a180 b180 a183 b183 a185 b185 a188 b188 aT aT2
              have efar : can a174 = V.far (can rl) := by rw [b174, b173, b166, b163, b162]; simp only [LineV.far, fbin, hrt, hrp, hrq, eca, eo, ess, ecs, ecm, hVf, hVa]
              exact bodyPost_ret (v := .tuple #[lineV a174 (V.outA (can rl)) (V.inA (can rl)), .nilIface]) (by simp [results, Tryd.results13, go_sem, d4]) rfl (hpost _ _ ⟨a174, _, rfl, efar, .nil, hw5⟩)
end Go.Proofs.YtegbkidjehjhmaaDoor
