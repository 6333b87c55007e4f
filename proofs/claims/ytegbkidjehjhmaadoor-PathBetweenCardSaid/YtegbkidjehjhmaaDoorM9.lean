/- Walk: the geodesic between two places, the reference's. -/
import Derived.Test.YtegbkidjehjhmaaDoorM8
import Derived.Test.YtegbkidjehjhmaaDoorM4
import Derived.Deep.DeepCutAuto
import Derived.Deep.LoopGhost
namespace Go.Proofs.YtegbkidjehjhmaaDoor
open Go.RowKit Go.Fp Go.Rel
set_option maxRecDepth 20000

theorem ext4 {w w' : World} {c1 c2 c3 c4 : Array Value} {t1 t2 t3 t4 : TypeId} (h : Ext ((((w.alloc (.cells c1 t1)).alloc (.cells c2 t2)).alloc (.cells c3 t3)).alloc (.cells c4 t4)) w') :
    Bks w' [(w.heap.size, t1, c1), (w.heap.size + 1, t2, c2), (w.heap.size + 1 + 1, t3, c3), (w.heap.size + 1 + 1 + 1, t4, c4)] ∧ Ext w w' := by
  obtain ⟨h4, hx⟩ := ext1 h
  rw [alloc_size, alloc_size, alloc_size] at h4
  obtain ⟨h1, h2, h3, hy⟩ := ext3 hx
  exact ⟨⟨h1, h2, h3, h4, trivial⟩, hy⟩
abbrev lineV (far : Nat) (o i : Int) : Value := .agg #[.float .f64 far, .int .i64 o, .int .i64 i]
def LineQ (FAR : Nat) (O I k : Int) (w : World) (e : Ending) (w' : World) : Prop := ∃ far, e = .returned (.tuple #[lineV far O I, .int .i64 k]) ∧ can far = FAR ∧ Ext w w'
def LineR (A : Nat → Addr) (FAR : Nat) (O I k : Int) (w : World) (e : Ending) (w' : World) : Prop := ∃ far v, e = .returned (.tuple #[lineV far O I, v]) ∧ can far = FAR ∧ ErrOf A k v ∧ Ext w w'
def SpNorm (f : Int → Int) (args : Array Value) (v : Value) : Prop := ∃ a : Int, args = #[.int .i64 a] ∧ v = .int .i64 (f a)
theorem spNorm_iff (f : Int → Int) (a : Int) (v : Value) : SpNorm f #[.int .i64 a] v ↔ v = .int .i64 (f a) := by
  unfold SpNorm
  exact ⟨fun ⟨_, h, k⟩ => by simp at h; obtain rfl := h; exact k, fun h => ⟨_, rfl, h⟩⟩
/-- a call that leaves the world as it is -/
theorem same_call {P : Program} {f : FuncId} {args : Array Value} {v : Value} {W : World} (h : Calls P f args W (fun e w' => e = .returned v ∧ W = w')) : Calls P f args W (fun e w' => ∃ u, e = .returned u ∧ u = v ∧ Ext W w') :=
  h.mono fun _ _ ⟨he, hx⟩ => ⟨_, he, rfl, by rw [← hx]; exact Ext.refl _⟩

set_option maxHeartbeats 16000000 in
theorem lineOf_ok (v : LineV) (w : World) (h : okG v.a v.f = true) (h1 : v.latA ≤ 90000000000) (h2 : -90000000000 ≤ v.latA) (h3 : v.latB ≤ 90000000000) (h4 : -90000000000 ≤ v.latB) (res : Option Nat) (hres : v.go 60 v.all = res)
    (post : Ending → World → Prop) (hn : res = none → ∀ e w', LineQ 0 0 0 6 w e w' → post e w') (hs : ∀ x, res = some x → ∀ e w', LineQ (v.far x) (v.outA x) (v.inA x) 0 w e w' → post e w') :
    Calls Tryd.prog 15 #[globeV v.a v.f, placeV v.lonA v.latA, placeV v.lonB v.latB] w post := by
  have HG : Hid (∀ w, Calls Tryd.prog 22 #[globeV v.a v.f] w (ExR (.int .i64 0) w)) := fun w => by simpa [h] using globeError_c v.a v.f w
  clear h
  obtain ⟨a, f, lonA, latA, lonB, latB⟩ := v
  simp only [] at *
  have W1 : IntKind.i64.wrap (normP lonB - normP lonA) = normP lonB - normP lonA := IntWalk.i64_in _ ⟨by have := normP_lo lonB; have := normP_hi lonA; omega, by have := normP_hi lonB; have := normP_lo lonA; omega⟩
  obtain ⟨V, hV⟩ : ∃ V, V = LineV.mk a f lonA latA lonB latB := ⟨_, rfl⟩
  rw [← hV] at hres hs
  have Hres := Lib.hid hres
  have HN := Lib.hid hn
  have HS := Lib.hid hs
  have HV := Lib.hid hV
  have hVf : V.f = f := by rw [hV]
  have hVa : V.a = a := by rw [hV]
  clear hres hn hs hV
  have tk : Hid True := trivial
  go_enter Tryd.func15, Tryd.ntmps15
  go_wp2_with (first
    | (go_at_call 22; go_must (refine (HG.out _).mono ?_; rintro e w1 ⟨rfl, hx1⟩; obtain ⟨hB, hw⟩ := ext4 hx1; clear hx1; have kc := And.intro hB.1.cell (And.intro hB.2.1.cell hB.2.2.1.cell)))
    | (go_at_call 54; clear tk; go_must (refine (reducedOf_c _ _ _ _).mono ?_; rintro e v1 ⟨rc1, rs1, rfl, hc1, hs1, hx⟩; clear kc; replace hB := hB.ext (bareN hx rfl rfl rfl rfl); replace hw := hw.trans (bareN hx rfl rfl rfl rfl); clear hx; have kc := And.intro hB.1.cell (And.intro hB.2.1.cell hB.2.2.1.cell)))
    | (go_at_call 54; go_must (refine (reducedOf_c _ _ _ _).mono ?_; rintro e v1 ⟨rc2, rs2, rfl, hc2, hs2, hx⟩; clear kc; replace hB := hB.ext (bareN hx rfl rfl rfl rfl); replace hw := hw.trans (bareN hx rfl rfl rfl rfl); clear hx; have kc := And.intro hB.1.cell (And.intro hB.2.1.cell hB.2.2.1.cell))))
  clear kc
  refine wp_region_all (fun g args v => (g = 56 ∧ SpNorm normP args v) ∨ (g = 55 ∧ SpNorm signP args v)) (by kernel_rfl) (by kernel_rfl) ?_
  repeat (first
    | (refine wpR_op rfl (fun w1 hx K hK => ?_); have kc := And.intro (hB.2.1.ext (bareN hx rfl rfl rfl rfl)).cell (hB.2.2.1.ext (bareN hx rfl rfl rfl rfl)).cell; go_simp; refine hK _ ?_; clear hK K kc hx w1)
    | (refine wpR_op rfl (fun w1 hx K hK => ?_); go_simp; refine rel_fl rfl ?_; intro r hr; refine hK _ ?_; clear hK K hx w1)
    | (refine wpR_op rfl (fun w1 hx K hK => ?_); go_simp; refine rel_call (same_call (normOf_c _ _)) (fun v => ?_) (fun v hv => ?_); (simp [spNorm_iff]); subst hv; refine hK _ ?_; clear hK K hx w1)
    | (refine wpR_op rfl (fun w1 hx K hK => ?_); go_simp; refine rel_call (ExR.call (signedAngle_c _ _)) (fun v => ?_) (fun v hv => ?_); (simp [spNorm_iff]); subst hv; refine hK _ ?_; clear hK K hx w1))
  refine wpR_nil ?_
  intro w2 hx _
  replace hB := hB.ext (bareN hx rfl rfl rfl rfl)
  replace hw := hw.trans (bareN hx rfl rfl rfl rfl)
  clear hx
  have eall : can r = V.all := by rw [HV.out]; simp only [LineV.all, radP, *, fbin]
  have ec1 : can rc1 = V.cu1 := by rw [HV.out, hc1]; rfl
  have es1 : can rs1 = V.su1 := by rw [HV.out, hs1]; rfl
  have ec2 : can rc2 = V.cu2 := by rw [HV.out, hc2]; rfl
  have es2 : can rs2 = V.su2 := by rw [HV.out, hs2]; rfl
  clear hr hc1 hc2 hs1 hs2
  go_wp2_with fail
  obtain ⟨L, hL⟩ : ∃ l, l = [(w.heap.size, 33, #[Value.float .f64 a, Value.float .f64 f]), (w.heap.size + 1, 35, #[Value.int .i64 lonA, Value.int .i64 latA]), (w.heap.size + 1 + 1, 35, #[Value.int .i64 lonB, Value.int .i64 latB]),
    (w.heap.size + 1 + 1 + 1, 44, #[Value.float .f64 0, Value.int .i64 0, Value.int .i64 0])] := ⟨_, rfl⟩
  rw [← hL] at hB
  go_loopw [15, 16, 17] (fun l b n wr => ∃ (rl k : Nat) (bl : Bool), l = .float .f64 rl ∧ b = .bool bl ∧ n = .int .i64 k ∧ k ≤ 60 ∧
      ((bl = false ∧ V.go (60 - k) (can rl) = res) ∨ (bl = true ∧ k = 1 ∧ (if LineV.out (can rl) then none else some (can rl)) = res)) ∧ Bks wr L ∧ Ext w wr)
    (fun _ b n _ => match b with | .bool true => 0 | _ => 62 - (intOf n).toNat)
  case atStart => exact ⟨r, 0, false, rfl, rfl, rfl, by omega, .inl ⟨rfl, by rw [eall]; exact Hres.out⟩, hB, by repeat (first | exact hw | refine Ext.drewN ?_ _)⟩
  case round =>
    clear hB hw
    obtain ⟨rl, k, bl, rfl, rfl, rfl, hk, hrel, hB, hw⟩ := hrel
    have HR := Lib.hid hrel
    clear hrel
    subst hL
    have kc := hB.1.cell
    cases hout : LineV.out (can rl) with
    | true =>
      have hno : res = none := by
        rcases HR.out with ⟨_, h⟩ | ⟨_, _, h⟩
        · rw [← h, go_out _ hout]
        · rw [← h, hout]; rfl
      have hpost := HN.out hno
      clear HR
      rcases out_yes hout with ho1 | ⟨ho1, ho2⟩
      all_goals
        go_wp2_with (first
          | (refine wpList_own rfl 44 _ _ rfl _ _ rfl rfl _ _ (show Blk _ _ _ _ from hB.2.2.2.1) (by kernel_rfl) rfl (by simp [Value.oneCell']) ?_; go_must (intro w9 hb4 hk9 _; have hw9 : Ext w w9 := hk9 w (by repeat (first | exact hw | refine Ext.drewN ?_ _)) (by omega); have d4 := hb4.cell; clear kc hB hk9)))
        exact bodyPost_ret (v := .tuple #[lineV 0 0 0, .int .i64 6]) (by simp [results, Tryd.results15, go_sem, d4]) rfl (hpost _ _ ⟨0, rfl, can0, hw9⟩)
    | false =>
      obtain ⟨ho1, ho2⟩ := out_no hout
      go_upto_if 137 with (first
        | (go_at_call 58; go_must (refine (nearestTo_c _ _).mono ?_; rintro e v1 ⟨rfl, hx⟩; clear kc; replace hB := hB.ext (bareN hx rfl rfl rfl rfl); replace hw := hw.trans (bareN hx rfl rfl rfl rfl); clear hx; have kc := hB.1.cell))
        | (go_at_call 57; go_must (refine (sincos_c _ _).mono ?_; rintro e w' ⟨rfl, rfl⟩))
        | (go_at_call 59; go_must (refine (less_c _ _ _ _).mono ?_; rintro e v1 ⟨re, rfl, hre, hx⟩; clear kc; replace hB := hB.ext (bareN hx rfl rfl rfl rfl); replace hw := hw.trans (bareN hx rfl rfl rfl rfl); clear hx; have kc := hB.1.cell))
        | (go_at_call 60; go_must (refine (plus_c _ _ _ _).mono ?_; rintro e v1 ⟨re, rfl, hre, hx⟩; clear kc; replace hB := hB.ext (bareN hx rfl rfl rfl rfl); replace hw := hw.trans (bareN hx rfl rfl rfl rfl); clear hx; have kc := hB.1.cell))
        | (go_at_call 47; go_must (refine (sqrt_c _ _).mono ?_; rintro e v1 ⟨re, rfl, hre, hx⟩; clear kc; replace hB := hB.ext (bareN hx rfl rfl rfl rfl); replace hw := hw.trans (bareN hx rfl rfl rfl rfl); clear hx; have kc := hB.1.cell))
        | (with_reducible refine upon_fl rfl ?_; intro y ny hy))
      rename_i vN1 ysc nsc hsc ycc ncc hcc yuu nuu huu y12 n12 h12 vN2 rt hrt yw nw hyw vN3 rsum hrsum vN4 rss hrss KK hKK
      have et : can rt = V.t (can rl) := by rw [hrt, h12, hsc]; simp only [fbin, LineV.t, LineV.cl, ec1, es1, ec2, es2]
      have ew : can yw = V.w (can rl) := by rw [hyw]; simp only [fbin, LineV.w, LineV.sl, ec2]
      have ess : can rss = V.ss (can rl) := by rw [hrss, hrsum, hy]; simp only [fbin, LineV.ss, et, ew]
      have ecs : can re = V.cs (can rl) := by rw [hre, huu, hcc]; simp only [fbin, LineV.cs, LineV.cl, ec1, es1, ec2, es2]
      have ecc : can ycc = fmul V.cu1 V.cu2 := by rw [hcc]; simp only [fbin, ec1, ec2]
      have euu : can yuu = fmul V.su1 V.su2 := by rw [huu]; simp only [fbin, es1, es2]
      clear hrt hyw hrss hrsum hy hre hcc huu
      go_cut [27] (fun s wx => ∃ y, s = .float .f64 y ∧ can y = V.sa (can rl) ∧ Bks wx [(w.heap.size, 33, #[Value.float .f64 a, Value.float .f64 f]), (w.heap.size + 1, 35, #[Value.int .i64 lonA, Value.int .i64 latA]), (w.heap.size + 1 + 1, 35, #[Value.int .i64 lonB, Value.int .i64 latB]), (w.heap.size + 1 + 1 + 1, 44, #[Value.float .f64 0, Value.int .i64 0, Value.int .i64 0])] ∧ Ext w wx)
      case first =>
        go_wp2_with (first | (with_reducible refine upon_fl rfl ?_; intro y ny hy))
        all_goals go_meet
        · rename_i hcond yv nv hyv
          exact ⟨_, rfl, by rw [hy, hyv]; unfold LineV.sa; rw [← ess, ite_ne hcond]; simp only [fbin, ecc, LineV.sl], hB, by repeat (first | exact hw | refine Ext.drewN ?_ _)⟩
        · rename_i hcond
          exact ⟨_, rfl, by rw [can0]; unfold LineV.sa; rw [← ess, ite_eq hcond], hB, hw⟩
      case rest =>
        clear hB hw kc
        obtain ⟨ysa, rfl, esa, hB, hw⟩ := hcut
        have kc := hB.1.cell
        go_upto_if 147 with (first
        | (go_at_call 59; go_must (refine (less_c _ _ _ _).mono ?_; rintro e v1 ⟨rca, rfl, hrca, hx⟩; clear kc; replace hB := hB.ext (bareN hx rfl rfl rfl rfl); replace hw := hw.trans (bareN hx rfl rfl rfl rfl); clear hx; have kc := hB.1.cell)))
        have eca : can rca = V.ca (can rl) := by rw [hrca]; simp only [LineV.ca, esa]
        clear hrca
        go_cut [29] (fun s wx => ∃ y, s = .float .f64 y ∧ can y = V.cm (can rl) ∧ Bks wx [(w.heap.size, 33, #[Value.float .f64 a, Value.float .f64 f]), (w.heap.size + 1, 35, #[Value.int .i64 lonA, Value.int .i64 latA]), (w.heap.size + 1 + 1, 35, #[Value.int .i64 lonB, Value.int .i64 latB]), (w.heap.size + 1 + 1 + 1, 44, #[Value.float .f64 0, Value.int .i64 0, Value.int .i64 0])] ∧ Ext w wx)
        case first =>
          go_wp2_with (first | (with_reducible refine upon_fl rfl ?_; intro y ny hy))
          all_goals go_meet
          · rename_i hcond yv nv hyv yv2 nv2 hyv2
            exact ⟨_, rfl, by rw [hy, hyv2, hyv]; unfold LineV.cm; rw [← eca, ite_ne hcond]; simp only [fbin, euu, ecs], hB, by repeat (first | exact hw | refine Ext.drewN ?_ _)⟩
          · rename_i hcond
            exact ⟨_, rfl, by rw [can0]; unfold LineV.cm; rw [← eca, ite_eq hcond], hB, hw⟩
        case rest =>
          clear hB hw kc
          obtain ⟨ycm, rfl, ecm, hB, hw⟩ := hcut
          have kc := hB.1.cell
          rcases HR.out with ⟨rfl, hgo⟩ | ⟨rfl, rfl, hgo⟩
          · have HGo := Lib.hid hgo
            clear hgo HR
            by_cases hk60 : k = 60
            · subst hk60
              go_wp2_with (first
                | (go_at_call 61; go_must (refine (refAngle_c _ _ _).mono ?_; rintro e v1 ⟨rfl, hx⟩; clear kc; replace hB := hB.ext (bareN hx rfl rfl rfl rfl); replace hw := hw.trans (bareN hx rfl rfl rfl rfl); clear hx; have kc := hB.1.cell))
                | (go_at_call 64; go_must (refine (longerOf_c _ _ _ _ _ _ _ _ _).mono ?_; rintro e v1 ⟨rg, rfl, hrg, hx⟩; clear kc; replace hB := hB.ext (bareN hx rfl rfl rfl rfl); replace hw := hw.trans (bareN hx rfl rfl rfl rfl); clear hx; have kc := hB.1.cell))
                | (go_at_call 62; go_must (refine (firstSecond_c _ _ _ _).mono ?_; rintro e v1 ⟨rp, rq, rfl, hrp, hrq, hx⟩; clear kc; replace hB := hB.ext (bareN hx rfl rfl rfl rfl); replace hw := hw.trans (bareN hx rfl rfl rfl rfl); clear hx; have kc := hB.1.cell))
                | (go_at_call 63; go_must (refine (offOf_c _ _ _ _ _).mono ?_; rintro e v1 ⟨rf, rfl, hrf, hx⟩; clear kc; replace hB := hB.ext (bareN hx rfl rfl rfl rfl); replace hw := hw.trans (bareN hx rfl rfl rfl rfl); clear hx; have kc := hB.1.cell))
                | (go_at_call 59; go_must (refine (less_c _ _ _ _).mono ?_; rintro e v1 ⟨rl2, rfl, hrl2, hx⟩; clear kc; replace hB := hB.ext (bareN hx rfl rfl rfl rfl); replace hw := hw.trans (bareN hx rfl rfl rfl rfl); clear hx; have kc := hB.1.cell))
                | (with_reducible refine upon_fl rfl ?_; intro y ny hy)
                | (refine wpList_own rfl 44 _ _ rfl _ _ rfl rfl _ _ (show Blk _ _ _ _ from hB.2.2.2.1) (by kernel_rfl) rfl (by simp [Value.oneCell']) ?_; go_must (intro w9 hb4 hk9 _; have hw9 : Ext w w9 := hk9 w (by repeat (first | exact hw | refine Ext.drewN ?_ _)) (by omega); have d4 := hb4.cell; clear kc hB hk9)))
              have hpost := HN.out (by rw [← HGo.out]; rfl)
              exact bodyPost_ret (v := .tuple #[lineV 0 0 0, .int .i64 6]) (by simp [results, Tryd.results15, go_sem, d4]) rfl (hpost _ _ ⟨0, rfl, can0, hw9⟩)
            · go_wp2_with (first
              | (go_at_call 61; go_must (refine (refAngle_c _ _ _).mono ?_; rintro e v1 ⟨rfl, hx⟩; clear kc; replace hB := hB.ext (bareN hx rfl rfl rfl rfl); replace hw := hw.trans (bareN hx rfl rfl rfl rfl); clear hx; have kc := hB.1.cell))
              | (go_at_call 64; go_must (refine (longerOf_c _ _ _ _ _ _ _ _ _).mono ?_; rintro e v1 ⟨rg, rfl, hrg, hx⟩; clear kc; replace hB := hB.ext (bareN hx rfl rfl rfl rfl); replace hw := hw.trans (bareN hx rfl rfl rfl rfl); clear hx; have kc := hB.1.cell))
              | (go_at_call 62; go_must (refine (firstSecond_c _ _ _ _).mono ?_; rintro e v1 ⟨rp, rq, rfl, hrp, hrq, hx⟩; clear kc; replace hB := hB.ext (bareN hx rfl rfl rfl rfl); replace hw := hw.trans (bareN hx rfl rfl rfl rfl); clear hx; have kc := hB.1.cell))
              | (go_at_call 63; go_must (refine (offOf_c _ _ _ _ _).mono ?_; rintro e v1 ⟨rf, rfl, hrf, hx⟩; clear kc; replace hB := hB.ext (bareN hx rfl rfl rfl rfl); replace hw := hw.trans (bareN hx rfl rfl rfl rfl); clear hx; have kc := hB.1.cell))
              | (go_at_call 59; go_must (refine (less_c _ _ _ _).mono ?_; rintro e v1 ⟨rl2, rfl, hrl2, hx⟩; clear kc; replace hB := hB.ext (bareN hx rfl rfl rfl rfl); replace hw := hw.trans (bareN hx rfl rfl rfl rfl); clear hx; have kc := hB.1.cell))
              | (with_reducible refine upon_fl rfl ?_; intro y ny hy)
              | (refine wpList_own rfl 44 _ _ rfl _ _ rfl rfl _ _ (show Blk _ _ _ _ from hB.2.2.2.1) (by kernel_rfl) rfl (by simp [Value.oneCell']) ?_; go_must (intro w9 hb4 hk9 _; have hw9 : Ext w w9 := hk9 w (by repeat (first | exact hw | refine Ext.drewN ?_ _)) (by omega); have d4 := hb4.cell; clear kc hB hk9)))
              · rename_i y1 n1 hy1 yd nd hyd hc1 hc2
                have enx : can y1 = V.next (can rl) := by rw [hy1]; simp only [LineV.next, LineV.o, radP, fbin, *]
                have hk1 : 60 - k = (59 - k) + 1 := by omega
                have hcl := close_of2 (v := V) (x := can rl) (d := yd) (e := y) (by rw [hyd]; simp only [fbin, enx]) (by rw [hy]; simp only [fbin, enx])
                have hb : V.close (can rl) = true := by rw [hcl]; simpa using hc2
                rw [← hcl, hb]
                exact ⟨⟨y1, 1, true, rfl, rfl, rfl, by omega, .inr ⟨rfl, rfl, by rw [enx, ← HGo.out, hk1]; exact (go_near _ hout hb).symm⟩, hB, by repeat (first | exact hw | refine Ext.drewN ?_ _)⟩, by simp [intOf]; omega⟩
              · rename_i y1 n1 hy1 yd nd hyd hc1 hc2
                have enx : can y1 = V.next (can rl) := by rw [hy1]; simp only [LineV.next, LineV.o, radP, fbin, *]
                have hk1 : 60 - k = (60 - (k + 1)) + 1 := by omega
                have hcl := close_of2 (v := V) (x := can rl) (d := yd) (e := y) (by rw [hyd]; simp only [fbin, enx]) (by rw [hy]; simp only [fbin, enx])
                have hb : V.close (can rl) = false := by rw [hcl, Bool.and_eq_false_iff, Bool.or_eq_false_iff, Bool.or_eq_false_iff]; exact hc2
                rw [← hcl, hb]
                exact ⟨⟨y1, k + 1, false, rfl, rfl, by simp, by omega, .inl ⟨rfl, by rw [enx, ← HGo.out, hk1]; exact (go_far _ hout hb).symm⟩, hB, by repeat (first | exact hw | refine Ext.drewN ?_ _)⟩, by simp [intOf]; omega⟩
              · rename_i y1 n1 hy1 hc1
                have enx : can y1 = V.next (can rl) := by rw [hy1]; simp only [LineV.next, LineV.o, radP, fbin, *]
                have hk1 : 60 - k = (60 - (k + 1)) + 1 := by omega
                have hcl := close_of (v := V) (x := can rl) (d := y) (by rw [hy]; simp only [fbin, enx])
                have hb : V.close (can rl) = false := by
                  rw [hcl, Bool.and_eq_false_iff]; left
                  rw [Bool.or_eq_false_iff, beq_eq_false_iff_ne, beq_eq_false_iff_ne]
                  exact ⟨fun h => hc1 (.inl h), fun h => hc1 (.inr h)⟩
                exact ⟨⟨y1, k + 1, false, rfl, rfl, by simp, by omega, .inl ⟨rfl, by rw [enx, ← HGo.out, hk1]; exact (go_far _ hout hb).symm⟩, hB, by repeat (first | exact hw | refine Ext.drewN ?_ _)⟩, by simp [intOf]; omega⟩
          · rw [hout] at hgo
            have hx : res = some (can rl) := hgo.symm
            clear hgo HR
            go_wp2_with (first
              | (go_at_call 61; go_must (refine (refAngle_c _ _ _).mono ?_; rintro e v1 ⟨rfl, hx⟩; clear kc; replace hB := hB.ext (bareN hx rfl rfl rfl rfl); replace hw := hw.trans (bareN hx rfl rfl rfl rfl); clear hx; have kc := hB.1.cell))
              | (go_at_call 64; go_must (refine (longerOf_c _ _ _ _ _ _ _ _ _).mono ?_; rintro e v1 ⟨rg, rfl, hrg, hx⟩; clear kc; replace hB := hB.ext (bareN hx rfl rfl rfl rfl); replace hw := hw.trans (bareN hx rfl rfl rfl rfl); clear hx; have kc := hB.1.cell))
              | (go_at_call 62; go_must (refine (firstSecond_c _ _ _ _).mono ?_; rintro e v1 ⟨rp, rq, rfl, hrp, hrq, hx⟩; clear kc; replace hB := hB.ext (bareN hx rfl rfl rfl rfl); replace hw := hw.trans (bareN hx rfl rfl rfl rfl); clear hx; have kc := hB.1.cell))
              | (go_at_call 63; go_must (refine (offOf_c _ _ _ _ _).mono ?_; rintro e v1 ⟨rf, rfl, hrf, hx⟩; clear kc; replace hB := hB.ext (bareN hx rfl rfl rfl rfl); replace hw := hw.trans (bareN hx rfl rfl rfl rfl); clear hx; have kc := hB.1.cell))
              | (go_at_call 59; go_must (refine (less_c _ _ _ _).mono ?_; rintro e v1 ⟨rl2, rfl, hrl2, hx⟩; clear kc; replace hB := hB.ext (bareN hx rfl rfl rfl rfl); replace hw := hw.trans (bareN hx rfl rfl rfl rfl); clear hx; have kc := hB.1.cell))
              | (with_reducible refine upon_fl rfl ?_; intro y ny hy)
              | (refine wpList_own rfl 44 _ _ rfl _ _ rfl rfl _ _ (show Blk _ _ _ _ from hB.2.2.2.1) (by kernel_rfl) rfl (by simp [Value.oneCell']) ?_; go_must (intro w9 hb4 hk9 _; have hw9 : Ext w w9 := hk9 w (by repeat (first | exact hw | refine Ext.drewN ?_ _)) (by omega); have d4 := hb4.cell; clear kc hB hk9)))
            rename_i y8 n8 h8 y7 n7 h7 y6 n6 h6 vA y5 n5 h5 y4 n4 h4 y3 n3 h3 y2 n2 h2 y1 n1 h1 y0 n0 h0 vB vC aK
            have hpost := HS.out _ hx
            have eO : (angleP (V.w (can rl)) (V.t (can rl))).1 = V.outA (can rl) := rfl
            have eI : (angleP (fbin BinOp.mul V.cu1 (can (sinP (nearP (can rl))))) (fsub (fbin BinOp.mul (fbin BinOp.mul V.cu1 V.su2) (can (cosP (nearP (can rl))))) (fmul V.su1 V.cu2))).1 = V.inA (can rl) := by simp only [fbin]; rfl
            rw [eO, eI] at d4
            have efar : can y4 = V.far (can rl) := by rw [h4]; simp only [LineV.far, LineV.o, radP, fbin, *]
            exact bodyPost_ret (v := .tuple #[lineV y4 (V.outA (can rl)) (V.inA (can rl)), .int .i64 0]) (by simp [results, Tryd.results15, go_sem, d4]) rfl (hpost _ _ ⟨y4, rfl, efar, hw9⟩)
end Go.Proofs.YtegbkidjehjhmaaDoor
