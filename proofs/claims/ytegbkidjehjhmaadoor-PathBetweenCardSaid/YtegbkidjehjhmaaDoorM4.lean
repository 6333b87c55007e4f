/- Walk: where one comes to along a geodesic, the reference's. -/
import Derived.Test.YtegbkidjehjhmaaDoorM3
namespace Go.Proofs.YtegbkidjehjhmaaDoor
open Go.RowKit Go.Fp Go.Rel
set_option maxRecDepth 20000

theorem oIt_succ (s1 q first : Nat) (k : Nat) : oIt s1 q first (k + 1) = oStep s1 q first (oIt s1 q first k) := rfl

set_option maxHeartbeats 16000000 in
theorem reachOf_ok (v : ReachV) (w : World) (h : okG v.a v.f = true) (h1 : v.lat ≤ 90000000000) (h2 : -90000000000 ≤ v.lat) (h3 : btw v.far 0 far2 = true) :
    Calls Tryd.prog 19 #[globeV v.a v.f, placeV v.lon v.lat, .int .i64 v.out, .float .f64 v.far] w
      (if v.north.2 then ReachQ (signP (normP v.lon + normP v.east)) (signP v.north.1) 0 w else ReachQ 0 0 6 w) := by
  have HG : Hid (∀ w, Calls Tryd.prog 22 #[globeV v.a v.f] w (ExR (.int .i64 0) w)) := fun w => by simpa [h] using globeError_c v.a v.f w
  have HB : Hid (∀ w, Calls Tryd.prog 67 #[.float .f64 v.far, .float .f64 0, .float .f64 far2] w (ExR (.bool true) w)) := fun w => by rw [← h3]; exact between_c v.far 0 far2 w
  clear h h3
  obtain ⟨a, f, lon, lat, out, far⟩ := v
  simp only [] at *
  have HP := Lib.hid (fun y x => refAngle_c y x)
  have t1 : Hid True := trivial
  generalize hpost : (if (ReachV.mk a f lon lat out far).north.2 then ReachQ (signP (normP lon + normP (ReachV.mk a f lon lat out far).east)) (signP (ReachV.mk a f lon lat out far).north.1) 0 w else ReachQ 0 0 6 w) = post
  have HPost := Lib.hid hpost
  clear hpost
  go_enter Tryd.func19, Tryd.ntmps19
  go_wp2_with (first
    | (go_at_call 22; go_must (refine (HG.out _).mono ?_; rintro e w1 ⟨rfl, hx1⟩; obtain ⟨hb1, hb2, hb3, hw⟩ := ext3 hx1; clear hx1))
    | (go_at_call 67; go_must (refine (HB.out _).mono ?_; rintro e w2 ⟨rfl, hx⟩; replace hb1 := hb1.ext (bareN hx rfl rfl rfl rfl); replace hb2 := hb2.ext (bareN hx rfl rfl rfl rfl); replace hb3 := hb3.ext (bareN hx rfl rfl rfl rfl); replace hw := hw.trans (bareN hx rfl rfl rfl rfl); clear hx; have c1 := hb1.cell; have c2' := hb2.cell))
    | (go_at_call 54; go_must (refine (reducedOf_c _ _ _ _).mono ?_; rintro e w3 ⟨rc, rs, rfl, hrc, hrs, hx⟩; clear c1 c2'; replace hb1 := hb1.ext (bareN hx rfl rfl rfl rfl); replace hb2 := hb2.ext (bareN hx rfl rfl rfl rfl); replace hb3 := hb3.ext (bareN hx rfl rfl rfl rfl); replace hw := hw.trans (bareN hx rfl rfl rfl rfl); clear hx; have c1 := hb1.cell; have c2' := hb2.cell))
    | (go_at_call 57; go_must (refine (sincos_c _ _).mono ?_; rintro e w' ⟨rfl, rfl⟩))
    | (go_at_call 61; go_must (refine (HP.out _ _ _).mono ?_; rintro e w4 ⟨rfl, hx⟩; clear c1 c2'; replace hb1 := hb1.ext (bareN hx rfl rfl rfl rfl); replace hb2 := hb2.ext (bareN hx rfl rfl rfl rfl); replace hb3 := hb3.ext (bareN hx rfl rfl rfl rfl); replace hw := hw.trans (bareN hx rfl rfl rfl rfl); clear hx; have c1 := hb1.cell; have c2' := hb2.cell))
    | (go_at_call 59; go_must (refine (less_c _ _ _ _).mono ?_; rintro e w5 ⟨rl, rfl, hrl, hx⟩; clear c1 c2'; replace hb1 := hb1.ext (bareN hx rfl rfl rfl rfl); replace hb2 := hb2.ext (bareN hx rfl rfl rfl rfl); replace hb3 := hb3.ext (bareN hx rfl rfl rfl rfl); replace hw := hw.trans (bareN hx rfl rfl rfl rfl); clear hx; have c1 := hb1.cell; have c2' := hb2.cell))
    | (go_at_call 62; go_must (refine (firstSecond_c _ _ _ _).mono ?_; rintro e w6 ⟨rp, rq, rfl, hrp, hrq, hx⟩; clear c1 c2'; replace hb1 := hb1.ext (bareN hx rfl rfl rfl rfl); replace hb2 := hb2.ext (bareN hx rfl rfl rfl rfl); replace hb3 := hb3.ext (bareN hx rfl rfl rfl rfl); replace hw := hw.trans (bareN hx rfl rfl rfl rfl); clear hx; have c1 := hb1.cell; have c2' := hb2.cell))
    | (with_reducible refine upon_fl rfl ?_; intro r n hr))
  rename_i x1 m1 hx1 x2 m2 hx2 x3 m3 hx3 x5 m5 hx5 x6 m6 hx6 x7 m7 hx7 KK hKK
  obtain ⟨CU, hCU⟩ : ∃ x, x = (ReachV.mk a f lon lat out far).cu := ⟨_, rfl⟩
  obtain ⟨SU, hSU⟩ : ∃ x, x = (ReachV.mk a f lon lat out far).su := ⟨_, rfl⟩
  obtain ⟨S1, hS1⟩ : ∃ x, x = (ReachV.mk a f lon lat out far).s1 := ⟨_, rfl⟩
  obtain ⟨SA, hSA⟩ : ∃ x, x = (ReachV.mk a f lon lat out far).sa := ⟨_, rfl⟩
  obtain ⟨CA, hCA⟩ : ∃ x, x = (ReachV.mk a f lon lat out far).ca := ⟨_, rfl⟩
  obtain ⟨Q, hQ⟩ : ∃ x, x = (ReachV.mk a f lon lat out far).q := ⟨_, rfl⟩
  obtain ⟨F1, hF1⟩ : ∃ x, x = (ReachV.mk a f lon lat out far).first := ⟨_, rfl⟩
  have ecu : can rc = CU := by rw [hCU, hrc]; rfl
  have esu : can rs = SU := by rw [hSU, hrs]; rfl
  have es1 : can x2 = S1 := by rw [hS1, hx2]; simp only [fbin, ReachV.s1, radP]; rfl
  have esa : can x3 = SA := by rw [hSA, hx3]; simp only [fbin, ReachV.sa, ReachV.sa1, ← hCU, ← ecu]
  have eca : can rl = CA := by rw [hCA, hrl]; simp only [ReachV.ca, ← hSA, ← esa]
  have eq : can rq = Q := by rw [hQ, hrq]; simp only [ReachV.q, ← hCA, ← eca]
  have ef : can r = F1 := by rw [hF1, hr]; simp only [fbin, hx5, hx6, hx7, hrp, ReachV.first, ReachV.p, ← hCA, ← eca]
  clear hrc hrs hrl hrp hrq hx1 hx2 hx3 hx5 hx6 hx7 hr c1 c2'
  have HS := Lib.hid (And.intro hCU (And.intro hSU (And.intro hS1 (And.intro hSA (And.intro hCA (And.intro hQ hF1))))))
  clear hCU hSU hS1 hSA hCA hQ hF1
  go_loopw [23, 24, 25, 26, 27] (fun o ss cs cm i wr => ∃ n ro rss rcs rcm : Nat, n ≤ 61 ∧ i = .int .i64 n ∧ o = .float .f64 ro ∧ ss = .float .f64 rss ∧ cs = .float .f64 rcs ∧ cm = .float .f64 rcm ∧ can ro = oIt S1 Q F1 (min n 60) ∧
      (n = 61 → rss = sinP (nearP (oIt S1 Q F1 60)) ∧ rcs = cosP (nearP (oIt S1 Q F1 60)) ∧ rcm = cosP (nearP (fadd (fmul (can c2) S1) (oIt S1 Q F1 60)))) ∧
      Bks wr [(w.heap.size, 33, #[.float .f64 a, .float .f64 f]), (w.heap.size + 1, 35, #[.int .i64 lon, .int .i64 lat]), (w.heap.size + 1 + 1, 35, #[.int .i64 0, .int .i64 0])] ∧ Ext w wr)
    (fun _ _ _ _ i _ => 61 - (intOf i).toNat)
  case atStart => exact ⟨0, r, 0, 0, 0, by omega, rfl, rfl, rfl, rfl, rfl, by rw [ef]; rfl, by omega, ⟨hb1, hb2, hb3, trivial⟩, by repeat (first | exact hw | refine Ext.drewN ?_ _)⟩
  case round =>
    clear hb1 hb2 hb3 hw
    obtain ⟨k, ro, rss, rcs, rcm, hn, rfl, rfl, rfl, rfl, rfl, ero, hlast, hB, hw⟩ := hrel
    have HE := Lib.hid ero
    clear ero
    rcases Nat.lt_or_ge k 60 with hn1 | hn1
    · clear hlast
      go_wp2_with (first
        | (go_at_call 58; go_must (refine (nearestTo_c _ _).mono ?_; rintro e v1 ⟨rfl, hx⟩; replace hB := hB.ext (bareN hx rfl rfl rfl rfl); replace hw := hw.trans (bareN hx rfl rfl rfl rfl); clear hx))
        | (go_at_call 57; go_must (refine (sincos_c _ _).mono ?_; rintro e w' ⟨rfl, rfl⟩))
        | (go_at_call 63; go_must (refine (offOf_c _ _ _ _ _).mono ?_; rintro e w6 ⟨rf, rfl, hrf, hx⟩; replace hB := hB.ext (bareN hx rfl rfl rfl rfl); replace hw := hw.trans (bareN hx rfl rfl rfl rfl); clear hx))
        | (with_reducible refine upon_fl rfl ?_; intro y ny hy))
      go_roundw
      case rel =>
        have e0 := HE.out
        rw [Nat.min_eq_left (by omega)] at e0
        exact ⟨k + 1, y, _, _, _, by omega, by simp, rfl, rfl, rfl, rfl, by rw [Nat.min_eq_left (by omega), oIt_succ, hy]; simp only [fbin, oStep, *], by omega, hB, by repeat (first | exact hw | refine Ext.drewN ?_ _)⟩
      case measure => simp [intOf]; omega
    · rcases Nat.lt_or_ge k 61 with hn2 | hn2
      · have hk : k = 60 := by omega
        subst hk
        clear hlast
        go_wp2_with (first
        | (go_at_call 58; go_must (refine (nearestTo_c _ _).mono ?_; rintro e v1 ⟨rfl, hx⟩; replace hB := hB.ext (bareN hx rfl rfl rfl rfl); replace hw := hw.trans (bareN hx rfl rfl rfl rfl); clear hx))
        | (go_at_call 57; go_must (refine (sincos_c _ _).mono ?_; rintro e w' ⟨rfl, rfl⟩))
        | (go_at_call 63; go_must (refine (offOf_c _ _ _ _ _).mono ?_; rintro e w6 ⟨rf, rfl, hrf, hx⟩; replace hB := hB.ext (bareN hx rfl rfl rfl rfl); replace hw := hw.trans (bareN hx rfl rfl rfl rfl); clear hx))
        | (with_reducible refine upon_fl rfl ?_; intro y ny hy))
        go_roundw
        case rel =>
          have e0 := HE.out
          rw [Nat.min_eq_left (by omega)] at e0
          exact ⟨61, ro, _, _, _, by omega, by simp, rfl, rfl, rfl, rfl, e0, fun _ => ⟨by simp only [*], by simp only [*], by simp only [fbin, *]⟩, hB, by repeat (first | exact hw | refine Ext.drewN ?_ _)⟩
        case measure => simp [intOf]
      · have hk : k = 61 := by omega
        subst hk
        obtain ⟨rfl, rfl, rfl⟩ := hlast rfl
        have e0 := HE.out
        rw [show min 61 60 = 60 from rfl] at e0
        clear HE hlast
        have kc := And.intro hB.1.cell hB.2.1.cell
        obtain ⟨⟨nn, nb⟩, hNN⟩ : ∃ x, x = (ReachV.mk a f lon lat out far).north := ⟨_, rfl⟩
        obtain ⟨LA, hLA⟩ : ∃ x, x = (ReachV.mk a f lon lat out far).ang := ⟨_, rfl⟩
        obtain ⟨EA, hEA⟩ : ∃ x, x = (ReachV.mk a f lon lat out far).east := ⟨_, rfl⟩
        obtain ⟨hCU, hSU, hS1, hSA, hCA, hQ, hF1⟩ := HS.out
        have Hang : Hid (∀ r1 r2, can r1 = fadd (fmul SU (can (cosP (nearP (oIt S1 Q F1 60))))) (fmul (fmul CU (can (sinP (nearP (oIt S1 Q F1 60))))) (can (cosP out))) →
            can r2 = fmul (fsub (can c1) (can f)) (fsqrt (fadd (fmul SA SA) (fmul (fsub (fmul SU (can (sinP (nearP (oIt S1 Q F1 60))))) (fmul (fmul CU (can (cosP (nearP (oIt S1 Q F1 60))))) (can (cosP out)))) (fsub (fmul SU (can (sinP (nearP (oIt S1 Q F1 60))))) (fmul (fmul CU (can (cosP (nearP (oIt S1 Q F1 60))))) (can (cosP out))))))) →
            angleP (can r1) (can r2) = (nn, nb)) := Lib.hid (by intro r1 r2 e1 e2; rw [e1, e2, hNN, hCU, hSU, hS1, hSA, hQ, hF1]; rfl)
        have Hlan : Hid (∀ r1 r2, can r1 = fmul (can (sinP (nearP (oIt S1 Q F1 60)))) (can (sinP out)) → can r2 = fsub (fmul CU (can (cosP (nearP (oIt S1 Q F1 60))))) (fmul (fmul SU (can (sinP (nearP (oIt S1 Q F1 60))))) (can (cosP out))) →
            (angleP (can r1) (can r2)).1 = LA) := Lib.hid (by intro r1 r2 e1 e2; rw [e1, e2, hLA, hCU, hSU, hS1, hQ, hF1]; rfl)
        have Heas : Hid (∀ r1, can r1 = fsub (radP (signP LA)) (longerP (can f) (thirdP (can f) CA) SA (oIt S1 Q F1 60) (can (sinP (nearP (oIt S1 Q F1 60)))) (can (cosP (nearP (oIt S1 Q F1 60)))) (can (cosP (nearP (fadd (fmul (can c2) S1) (oIt S1 Q F1 60)))))) → nearP (can r1) = EA) :=
          Lib.hid (by intro r1 e1; rw [e1, hEA, hLA, hCA, hSA, hS1, hQ, hF1]; rfl)
        have hp := HPost.out
        rw [← hNN, ← hEA] at hp
        clear hCU hSU hS1 hSA hCA hQ hF1 hNN hLA hEA HPost HS
        have W1 : IntKind.i64.wrap (normP lon + normP EA) = normP lon + normP EA := IntWalk.i64_in _ ⟨by have := normP_lo lon; have := normP_lo EA; omega, by have := normP_hi lon; have := normP_hi EA; omega⟩
        cases nb
        · subst hp
          go_wp2_with (first
        | (go_at_call 59; go_must (refine (less_c _ _ _ _).mono ?_; rintro e v1 ⟨rl', rfl, hrl, hx⟩; clear kc; replace hB := hB.ext (bareN hx rfl rfl rfl rfl); replace hw := hw.trans (bareN hx rfl rfl rfl rfl); clear hx; have kc := And.intro hB.1.cell hB.2.1.cell))
        | (go_at_call 60; go_must (refine (plus_c _ _ _ _).mono ?_; rintro e v1 ⟨rp', rfl, hrp, hx⟩; clear kc; replace hB := hB.ext (bareN hx rfl rfl rfl rfl); replace hw := hw.trans (bareN hx rfl rfl rfl rfl); clear hx; have kc := And.intro hB.1.cell hB.2.1.cell))
        | (go_at_call 47; go_must (refine (sqrt_c _ _).mono ?_; rintro e v1 ⟨rq', rfl, hrq, hx⟩; clear kc; replace hB := hB.ext (bareN hx rfl rfl rfl rfl); replace hw := hw.trans (bareN hx rfl rfl rfl rfl); clear hx; have kc := And.intro hB.1.cell hB.2.1.cell))
        | (go_at_call 68; go_must (refine (angleOf_c _ _ _).mono ?_; rintro e v1 ⟨rfl, hx⟩; clear kc; replace hB := hB.ext (bareN hx rfl rfl rfl rfl); replace hw := hw.trans (bareN hx rfl rfl rfl rfl); clear hx; have kc := And.intro hB.1.cell hB.2.1.cell; rw [Hang.out _ _ (by simp only [*, fbin]) (by simp only [*, fbin])]))
        | (go_at_call 61; go_must (refine (HP.out _ _ _).mono ?_; rintro e v1 ⟨rfl, hx⟩; clear kc; replace hB := hB.ext (bareN hx rfl rfl rfl rfl); replace hw := hw.trans (bareN hx rfl rfl rfl rfl); clear hx; have kc := And.intro hB.1.cell hB.2.1.cell; rw [Hlan.out _ _ (by simp only [*, fbin]) (by simp only [*, fbin])]))
        | (go_at_call 55; go_must (refine (signedAngle_c _ _).mono ?_; rintro e v1 ⟨rfl, hx⟩; clear kc; replace hB := hB.ext (bareN hx rfl rfl rfl rfl); replace hw := hw.trans (bareN hx rfl rfl rfl rfl); clear hx; have kc := And.intro hB.1.cell hB.2.1.cell))
        | (go_at_call 56; go_must (refine (normOf_c _ _).mono ?_; rintro e v1 ⟨rfl, rfl⟩))
        | (go_at_call 64; go_must (refine (longerOf_c _ _ _ _ _ _ _ _ _).mono ?_; rintro e v1 ⟨rg, rfl, hrg, hx⟩; clear kc; replace hB := hB.ext (bareN hx rfl rfl rfl rfl); replace hw := hw.trans (bareN hx rfl rfl rfl rfl); clear hx; have kc := And.intro hB.1.cell hB.2.1.cell))
        | (go_at_call 58; go_must (refine (nearestTo_c _ _).mono ?_; rintro e v1 ⟨rfl, hx⟩; clear kc; replace hB := hB.ext (bareN hx rfl rfl rfl rfl); replace hw := hw.trans (bareN hx rfl rfl rfl rfl); clear hx; have kc := And.intro hB.1.cell hB.2.1.cell; rw [Heas.out _ (by simp only [*, fbin, radP])]))
        | (with_reducible refine upon_fl rfl ?_; intro y ny hy)
        | (refine wpList_own rfl 35 _ _ rfl _ _ rfl rfl _ _ (show Blk _ _ _ _ from hB.2.2.1) (by kernel_rfl) rfl (by simp [Value.oneCell']) ?_; go_must (intro w9 hb4 hk9 _; have hw9 : Ext w w9 := hk9 _ (by repeat (first | exact hw | refine Ext.drewN ?_ _)) (by omega); have c4 := hb4.cell; clear kc hB hk9)))
          exact bodyPost_ret (v := .tuple #[placeV 0 0, .int .i64 6]) (by simp [results, Tryd.results19, go_sem, c4]) rfl ⟨rfl, hw9⟩
        · subst hp
          go_wp2_with (first
        | (go_at_call 59; go_must (refine (less_c _ _ _ _).mono ?_; rintro e v1 ⟨rl', rfl, hrl, hx⟩; clear kc; replace hB := hB.ext (bareN hx rfl rfl rfl rfl); replace hw := hw.trans (bareN hx rfl rfl rfl rfl); clear hx; have kc := And.intro hB.1.cell hB.2.1.cell))
        | (go_at_call 60; go_must (refine (plus_c _ _ _ _).mono ?_; rintro e v1 ⟨rp', rfl, hrp, hx⟩; clear kc; replace hB := hB.ext (bareN hx rfl rfl rfl rfl); replace hw := hw.trans (bareN hx rfl rfl rfl rfl); clear hx; have kc := And.intro hB.1.cell hB.2.1.cell))
        | (go_at_call 47; go_must (refine (sqrt_c _ _).mono ?_; rintro e v1 ⟨rq', rfl, hrq, hx⟩; clear kc; replace hB := hB.ext (bareN hx rfl rfl rfl rfl); replace hw := hw.trans (bareN hx rfl rfl rfl rfl); clear hx; have kc := And.intro hB.1.cell hB.2.1.cell))
        | (go_at_call 68; go_must (refine (angleOf_c _ _ _).mono ?_; rintro e v1 ⟨rfl, hx⟩; clear kc; replace hB := hB.ext (bareN hx rfl rfl rfl rfl); replace hw := hw.trans (bareN hx rfl rfl rfl rfl); clear hx; have kc := And.intro hB.1.cell hB.2.1.cell; rw [Hang.out _ _ (by simp only [*, fbin]) (by simp only [*, fbin])]))
        | (go_at_call 61; go_must (refine (HP.out _ _ _).mono ?_; rintro e v1 ⟨rfl, hx⟩; clear kc; replace hB := hB.ext (bareN hx rfl rfl rfl rfl); replace hw := hw.trans (bareN hx rfl rfl rfl rfl); clear hx; have kc := And.intro hB.1.cell hB.2.1.cell; rw [Hlan.out _ _ (by simp only [*, fbin]) (by simp only [*, fbin])]))
        | (go_at_call 55; go_must (refine (signedAngle_c _ _).mono ?_; rintro e v1 ⟨rfl, hx⟩; clear kc; replace hB := hB.ext (bareN hx rfl rfl rfl rfl); replace hw := hw.trans (bareN hx rfl rfl rfl rfl); clear hx; have kc := And.intro hB.1.cell hB.2.1.cell))
        | (go_at_call 56; go_must (refine (normOf_c _ _).mono ?_; rintro e v1 ⟨rfl, rfl⟩))
        | (go_at_call 64; go_must (refine (longerOf_c _ _ _ _ _ _ _ _ _).mono ?_; rintro e v1 ⟨rg, rfl, hrg, hx⟩; clear kc; replace hB := hB.ext (bareN hx rfl rfl rfl rfl); replace hw := hw.trans (bareN hx rfl rfl rfl rfl); clear hx; have kc := And.intro hB.1.cell hB.2.1.cell))
        | (go_at_call 58; go_must (refine (nearestTo_c _ _).mono ?_; rintro e v1 ⟨rfl, hx⟩; clear kc; replace hB := hB.ext (bareN hx rfl rfl rfl rfl); replace hw := hw.trans (bareN hx rfl rfl rfl rfl); clear hx; have kc := And.intro hB.1.cell hB.2.1.cell; rw [Heas.out _ (by simp only [*, fbin, radP])]))
        | (with_reducible refine upon_fl rfl ?_; intro y ny hy)
        | (refine wpList_own rfl 35 _ _ rfl _ _ rfl rfl _ _ (show Blk _ _ _ _ from hB.2.2.1) (by kernel_rfl) rfl (by simp [Value.oneCell']) ?_; go_must (intro w9 hb4 hk9 _; have hw9 : Ext w w9 := hk9 _ (by repeat (first | exact hw | refine Ext.drewN ?_ _)) (by omega); have c4 := hb4.cell; clear kc hB hk9)))
          exact bodyPost_ret (v := .tuple #[placeV _ _, .int .i64 0]) (by simp [results, Tryd.results19, go_sem, c4]) rfl ⟨rfl, hw9⟩

set_option maxHeartbeats 4000000 in
theorem reachOf_shape (a f : Nat) (lon lat out : Int) (far : Nat) (w : World) (h : okG a f = false) :
    Calls Tryd.prog 19 #[globeV a f, placeV lon lat, .int .i64 out, .float .f64 far] w (ReachQ 0 0 3 w) := by
  have HG : Hid (∀ w, Calls Tryd.prog 22 #[globeV a f] w (ExR (.int .i64 3) w)) := fun w => by simpa [h] using globeError_c a f w
  clear h
  go_enter Tryd.func19, Tryd.ntmps19
  go_wp2_with (first
    | (go_at_call 22; refine (HG.out _).mono ?_; rintro e w1 ⟨rfl, hx1⟩; obtain ⟨hb1, hb2, hb3, hw1⟩ := ext3 hx1)
    | (refine wpList_own rfl 35 _ _ rfl _ _ rfl rfl _ _ hb3 (by kernel_rfl) rfl (by simp [Value.oneCell']) ?_; intro w2 hb4 hk2 _; have hw2 : Ext w w2 := hk2 _ hw1 (by omega); have c4 := hb4.cell; clear hb3 hk2))
  exact bodyPost_ret (v := .tuple #[placeV 0 0, .int .i64 3]) (by simp [results, Tryd.results19, go_sem, c4]) rfl ⟨rfl, hw2⟩

/-- why a place or a length is refused -/
def FarV (lat : Int) (far : Nat) : Prop := 90000000000 < lat ∨ (lat ≤ 90000000000 ∧ lat < -90000000000) ∨ (lat ≤ 90000000000 ∧ -90000000000 ≤ lat ∧ btw far 0 far2 = false)
set_option maxHeartbeats 8000000 in
theorem reachOf_range (a f : Nat) (lon lat out : Int) (far : Nat) (w : World) (h : okG a f = true) (hr : FarV lat far) :
    Calls Tryd.prog 19 #[globeV a f, placeV lon lat, .int .i64 out, .float .f64 far] w (ReachQ 0 0 4 w) := by
  have HG : Hid (∀ w, Calls Tryd.prog 22 #[globeV a f] w (ExR (.int .i64 0) w)) := fun w => by simpa [h] using globeError_c a f w
  have HB := Lib.hid (between_c far 0 far2)
  clear h
  have hr' : 90000000000 < lat ∨ (lat ≤ 90000000000 ∧ lat < -90000000000) ∨ (lat ≤ 90000000000 ∧ -90000000000 ≤ lat ∧ btw far 0 far2 = false) := hr
  clear hr
  generalize btw far 0 far2 = b at *
  rcases hr' with hr | ⟨h1, h2⟩ | ⟨h1, h2, rfl⟩
  all_goals
    go_enter Tryd.func19, Tryd.ntmps19
    go_wp2_with (first
      | (go_at_call 22; refine (HG.out _).mono ?_; rintro e w1 ⟨rfl, hx1⟩; obtain ⟨hb1, hb2, hb3, hw1⟩ := ext3 hx1)
      | (go_at_call 67; refine (HB.out _).mono ?_; rintro e w2 ⟨rfl, hx2⟩; replace hb2 := hb2.ext hx2; replace hb3 := hb3.ext hx2; have hw2 := hw1.trans hx2; have c2 := hb2.cell)
      | (refine wpList_own rfl 35 _ _ rfl _ _ rfl rfl _ _ hb3 (by kernel_rfl) rfl (by simp [Value.oneCell']) ?_; intro w3 hb4 hk3 _; have hw3 : Ext w w3 := hk3 _ hw2 (by omega); have c4 := hb4.cell; clear hb3 hk3 c2))
    exact bodyPost_ret (v := .tuple #[placeV 0 0, .int .i64 4]) (by simp [results, Tryd.results19, go_sem, c4]) rfl ⟨rfl, hw3⟩

theorem reachOf_c {v : ReachV} {x y k : Int} (h : ReachIs v x y k) (w : World) :
    Calls Tryd.prog 19 #[globeV v.a v.f, placeV v.lon v.lat, .int .i64 v.out, .float .f64 v.far] w (ReachQ x y k w) := by
  cases h with
  | shape h => exact reachOf_shape _ _ _ _ _ _ w h
  | range1 h h1 => exact reachOf_range _ _ _ _ _ _ w h (.inl h1)
  | range2 h h1 h2 => exact reachOf_range _ _ _ _ _ _ w h (.inr (.inl ⟨h1, h2⟩))
  | range3 h h1 h2 h3 => exact reachOf_range _ _ _ _ _ _ w h (.inr (.inr ⟨h1, h2, h3⟩))
  | none h h1 h2 h3 h4 => have := reachOf_ok v w h h1 h2 h3; rw [h4] at this; exact this
  | ok h h1 h2 h3 h4 => have := reachOf_ok v w h h1 h2 h3; rw [h4] at this; exact this
end Go.Proofs.YtegbkidjehjhmaaDoor
