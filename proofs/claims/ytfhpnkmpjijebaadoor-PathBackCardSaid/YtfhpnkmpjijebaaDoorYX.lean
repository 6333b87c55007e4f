/- Walk: where one comes to along a geodesic, with no error in sight. Printed by gen_pathback.py. -/
import Derived.Test.YtfhpnkmpjijebaaDoorYY
import Derived.Deep.RegionHeld3
import Derived.Deep.DeepCutAuto
namespace Go.Proofs.YtfhpnkmpjijebaaDoor
open Go.RowKit Go.Fp Go.Rel
set_option maxRecDepth 20000
set_option maxHeartbeats 16000000 in
theorem reach_ok0 {A : Nat → Addr} (v : ReachV) (w : World) (h : okG v.a v.f = true) (h1 : v.lat ≤ 90000000000) (h2 : -90000000000 ≤ v.lat) (h3 : btw v.far 0 far2 = true) (h4 : v.north.2 = true) :
    Calls Tryd.prog 8 #[globeV v.a v.f, placeV v.lon v.lat, .int .i64 v.out, .float .f64 v.far] w
      (ReachR A (signP (normP v.lon + normP v.east)) (signP v.north.1) 0 w) := by
  have HV : Hid (∀ w, Calls Tryd.prog 15 #[globeV v.a v.f] w (ExR .nilIface w)) := fun w => valid_ok0 v.a v.f h w
  have HL : Hid (∀ w, Calls Tryd.prog 16 #[.int .i64 v.lat] w (ExR (.bool true) w)) := fun w => by simpa [h1, h2] using pathLat_c v.lat w
  clear h
  obtain ⟨a, f, lon, lat, out, far⟩ := v
  simp only [] at *
  obtain ⟨hge, hle⟩ := btw_true h3
  have hfar : ((!FloatKind.f64.format.order far 0 == some Ordering.gt) = false ∨ (!FloatKind.f64.format.order far 0 == some Ordering.eq) = false) ∧
      ((!FloatKind.f64.format.order far 4716133919349538816 == some Ordering.lt) = false ∨ (!FloatKind.f64.format.order far 4716133919349538816 == some Ordering.eq) = false) := by
    simpa using And.intro hge hle
  clear h3
  generalize hpost : ReachR A (signP (normP lon + normP (ReachV.mk a f lon lat out far).east)) (signP (ReachV.mk a f lon lat out far).north.1) 0 w = post
  have HN2 := Lib.hid h4
  clear h4
  have HPost := Lib.hid hpost
  clear hpost
  go_enter Tryd.func8, Tryd.ntmps8
  have t1 : Hid True := trivial
  have t3 : Hid True := trivial
  have hmf := mf_look
  go_wp2_with (first
    | (go_at_call 15; go_must (refine (HV.out _).mono ?_; rintro e w1 ⟨rfl, hx1⟩; obtain ⟨hb1, hb2, hb3, hw⟩ := ext3 hx1; have hB : Bks w1 [(w.heap.size, 35, #[.float .f64 a, .float .f64 f]), (w.heap.size + 1, 26, #[.int .i64 lon, .int .i64 lat]), (w.heap.size + 1 + 1, 26, #[.int .i64 0, .int .i64 0])] := ⟨hb1, hb2, hb3, trivial⟩; clear hx1 hb1 hb2 hb3; have kc := And.intro hB.1.cell hB.2.1.cell))
    | (go_at_call 16; go_must (refine (HL.out _).mono ?_; rintro e v1 ⟨rfl, hx⟩; clear kc; replace hB := hB.ext (bareN hx rfl rfl rfl rfl); replace hw := hw.trans (bareN hx rfl rfl rfl rfl); clear hx; have kc := And.intro hB.1.cell hB.2.1.cell))
    | (go_at_call 17; go_must (refine (reduced_c _ _ _ _).mono ?_; rintro e v1 ⟨rc, rs, rfl, hrc, hrs, hx⟩; clear kc; replace hB := hB.ext (bareN hx rfl rfl rfl rfl); replace hw := hw.trans (bareN hx rfl rfl rfl rfl); clear hx; have kc := And.intro hB.1.cell hB.2.1.cell))
    | (go_at_call 21; go_must (refine (sin_c _ _).mono ?_; rintro e v1 ⟨rfl, hx⟩; clear kc; replace hB := hB.ext (bareN hx rfl rfl rfl rfl); replace hw := hw.trans (bareN hx rfl rfl rfl rfl); clear hx; have kc := And.intro hB.1.cell hB.2.1.cell))
    | (go_at_call 22; go_must (refine (cos_c _ _).mono ?_; rintro e v1 ⟨rfl, hx⟩; clear kc; replace hB := hB.ext (bareN hx rfl rfl rfl rfl); replace hw := hw.trans (bareN hx rfl rfl rfl rfl); clear hx; have kc := And.intro hB.1.cell hB.2.1.cell))
    | (go_at_call 27; go_must (refine (pathAngle_c _ _ _).mono ?_; rintro e v1 ⟨rfl, hx⟩; clear kc; replace hB := hB.ext (bareN hx rfl rfl rfl rfl); replace hw := hw.trans (bareN hx rfl rfl rfl rfl); clear hx; have kc := And.intro hB.1.cell hB.2.1.cell))
    | (go_at_call 25; go_must (refine (of_c _ _ _ _).mono ?_; rintro e v1 ⟨rp, rq, rfl, hrp, hrq, hx⟩; clear kc; replace hB := hB.ext (bareN hx rfl rfl rfl rfl); replace hw := hw.trans (bareN hx rfl rfl rfl rfl); clear hx; have kc := And.intro hB.2.1.cell hB.2.2.1.cell))
    | (with_reducible refine upon_fl rfl ?_; intro y ny hy)
    | (clear t1; refine wpList_ownF rfl 22 _ _ rfl _ _ _ rfl rfl _ _ (Blk.new _ _ _) (by kernel_rfl) ?_; go_must (intro u bn en sn zn; have f1 := Lib.hid hB.fresh; replace hw := en _ (by repeat (first | exact hw | refine Ext.drewN ?_ _ | refine Ext.alloc ?_ _)) hw.size; replace hB := (hB.keep _ sn).cons bn; clear kc bn en sn zn; have kc := And.intro hB.2.1.cell hB.2.2.1.cell))
    | (refine wpList_own rfl 59 _ _ rfl _ _ rfl rfl _ _ (Blk.new _ _ _) (by kernel_rfl) rfl (by simp [Value.oneCell']) ?_; go_must (intro u bn en sn; have f2 := Lib.hid hB.fresh; replace hw := en _ (by repeat (first | exact hw | refine Ext.drewN ?_ _ | refine Ext.alloc ?_ _)) hw.size; replace hB := (hB.keep _ sn).cons bn; clear kc bn en sn; have kc := And.intro hB.1.cell (And.intro hB.2.2.1.cell hB.2.2.2.1.cell)))
    | (clear t3; refine wpList_ownF rfl 22 _ _ rfl _ _ _ rfl rfl _ _ (Blk.new _ _ _) (by kernel_rfl) ?_; go_must (intro u bn en sn zn; have f3 := Lib.hid hB.fresh; replace hw := en _ (by repeat (first | exact hw | refine Ext.drewN ?_ _ | refine Ext.alloc ?_ _)) hw.size; replace hB := (hB.keep _ sn).cons bn; clear kc bn en sn zn; skip)))
  · exfalso
    rename_i hcond _ _
    rcases hge with hge | hge <;> rcases hle with hle | hle <;> simp [hge, hle] at hcond
  rename_i vA z7 m7 hz7 vB z6 m6 hz6 uA z5 m5 hz5 z4 m4 hz4 z3 m3 hz3 uB z2 m2 hz2 z1 m1 hz1 z0 m0 hz0 KK hKK
  have q1 : w.heap.size + 1 + 1 < vB.heap.size := f1.out _ (List.Mem.tail _ (List.Mem.tail _ (List.Mem.head _)))
  have q2 : vB.heap.size < v1.heap.size := f2.out _ (List.Mem.head _)
  have q3 : v1.heap.size < uB.heap.size := f3.out _ (List.Mem.head _)
  have q4 : uB.heap.size < u.heap.size := hB.fresh _ (List.Mem.head _)
  have hO := hB.1
  have hL := hB.2
  have HLT := f3
  clear f1 f2 f3 hB hfar hge hle
  obtain ⟨CU, hCU⟩ : ∃ x, x = (ReachV.mk a f lon lat out far).cu := ⟨_, rfl⟩
  obtain ⟨SU, hSU⟩ : ∃ x, x = (ReachV.mk a f lon lat out far).su := ⟨_, rfl⟩
  obtain ⟨S1, hS1⟩ : ∃ x, x = (ReachV.mk a f lon lat out far).s1 := ⟨_, rfl⟩
  obtain ⟨SA, hSA⟩ : ∃ x, x = (ReachV.mk a f lon lat out far).sa := ⟨_, rfl⟩
  obtain ⟨CA, hCA⟩ : ∃ x, x = (ReachV.mk a f lon lat out far).ca := ⟨_, rfl⟩
  obtain ⟨Q, hQ⟩ : ∃ x, x = (ReachV.mk a f lon lat out far).q := ⟨_, rfl⟩
  obtain ⟨F1, hF1⟩ : ∃ x, x = (ReachV.mk a f lon lat out far).first := ⟨_, rfl⟩
  have ecu : can rc = CU := by rw [hCU, hrc]; rfl
  have esu : can rs = SU := by rw [hSU, hrs]; rfl
  have es1 : can z6 = S1 := by rw [hS1, hz6]; simp only [fbin, ReachV.s1, radP]; rfl
  have esa : can z5 = SA := by rw [hSA, hz5]; simp only [fbin, ReachV.sa, ReachV.sa1, ← hCU, ← ecu]
  have eca : can z3 = CA := by rw [hCA, hz3]; simp only [fbin, hz4, ReachV.ca, ← hSA, ← esa]
  have eq : can rq = Q := by rw [hQ, hrq]; simp only [ReachV.q, ← hCA, ← eca]
  have ef : can y = F1 := by rw [hF1, hy]; simp only [fbin, hz0, hz1, hz2, hrp, ReachV.first, ReachV.p, ← hCA, ← eca]
  clear hrc hrs hrp hrq hz7 hz6 hz5 hz4 hz3 hz2 hz1 hz0 hy
  obtain ⟨⟨nn, nb⟩, hNN⟩ : ∃ x, x = (ReachV.mk a f lon lat out far).north := ⟨_, rfl⟩
  obtain ⟨LA, hLA⟩ : ∃ x, x = (ReachV.mk a f lon lat out far).ang := ⟨_, rfl⟩
  obtain ⟨EA, hEA⟩ : ∃ x, x = (ReachV.mk a f lon lat out far).east := ⟨_, rfl⟩
  have Hang : Hid (∀ r1 r2, can r1 = fadd (fmul SU (can (cosP (nearP (oIt S1 Q F1 60))))) (fmul (fmul CU (can (sinP (nearP (oIt S1 Q F1 60))))) (can (cosP out))) →
      can r2 = fmul (fsub (can c1) (can f)) (fsqrt (fadd (fmul SA SA) (fmul (fsub (fmul SU (can (sinP (nearP (oIt S1 Q F1 60))))) (fmul (fmul CU (can (cosP (nearP (oIt S1 Q F1 60))))) (can (cosP out)))) (fsub (fmul SU (can (sinP (nearP (oIt S1 Q F1 60))))) (fmul (fmul CU (can (cosP (nearP (oIt S1 Q F1 60))))) (can (cosP out))))))) →
      angleP (can r1) (can r2) = (nn, nb)) := Lib.hid (by intro r1 r2 e1 e2; rw [e1, e2, hNN, hCU, hSU, hS1, hSA, hQ, hF1]; rfl)
  have Hlan : Hid (∀ r1 r2, can r1 = fmul (can (sinP (nearP (oIt S1 Q F1 60)))) (can (sinP out)) → can r2 = fsub (fmul CU (can (cosP (nearP (oIt S1 Q F1 60))))) (fmul (fmul SU (can (sinP (nearP (oIt S1 Q F1 60))))) (can (cosP out))) →
      (angleP (can r1) (can r2)).1 = LA) := Lib.hid (by intro r1 r2 e1 e2; rw [e1, e2, hLA, hCU, hSU, hS1, hQ, hF1]; rfl)
  have Heas : Hid (∀ r1, can r1 = fsub (radP (signP LA)) (longerP (can f) (thirdP (can f) CA) SA (oIt S1 Q F1 60) (can (sinP (nearP (oIt S1 Q F1 60)))) (can (cosP (nearP (oIt S1 Q F1 60)))) (can (cosP (nearP (fadd (fmul (can c2) S1) (oIt S1 Q F1 60)))))) → nearP (can r1) = EA) :=
    Lib.hid (by intro r1 e1; rw [e1, hEA, hLA, hCA, hSA, hS1, hQ, hF1]; rfl)
  have hp := HPost.out
  rw [← hNN, ← hEA] at hp
  obtain rfl : nb = true := by have := HN2.out; rw [← hNN] at this; exact this
  clear hCU hSU hS1 hSA hCA hQ hF1 hNN hLA hEA HPost
  have W1 : IntKind.i64.wrap (normP lon + normP EA) = normP lon + normP EA := IntWalk.i64_in _ ⟨by have := normP_lo lon; have := normP_lo EA; omega, by have := normP_hi lon; have := normP_hi EA; omega⟩
  obtain ⟨g3, g4, g5, hx⟩ := ext3 (Ext.refl (((u.alloc (.cells #[.float .f64 0] 22)).alloc (.cells #[.float .f64 0] 22)).alloc (.cells #[.float .f64 0] 22)))
  replace hO := hO.ext hx
  replace hL := hL.ext hx
  replace hw := hw.trans hx
  clear hx
  generalize ((u.alloc (.cells #[.float .f64 0] 22)).alloc (.cells #[.float .f64 0] 22)).alloc (.cells #[.float .f64 0] 22) = W at *
  generalize u.heap.size = nC at *
  generalize uB.heap.size = nO at *
  generalize v1.heap.size = nS at *
  generalize vB.heap.size = n1 at *
  obtain ⟨L5, hL5⟩ : ∃ l, l = [(nS, 59, #[Value.float .f64 rp, Value.float .f64 rq]), (n1, 22, #[Value.float .f64 z6]), (w.heap.size, 35, #[Value.float .f64 a, Value.float .f64 f]),
    (w.heap.size + 1, 26, #[Value.int .i64 lon, Value.int .i64 lat]), (w.heap.size + 1 + 1, 26, #[Value.int .i64 0, Value.int .i64 0])] := ⟨_, rfl⟩
  have Q1 := Lib.hid q1
  have Q2 := Lib.hid q2
  have Q3 := Lib.hid q3
  have Q4 := Lib.hid q4
  clear q1 q2 q3 q4
  go_loopw [92] (fun i wr => ∃ k ro x3 x4 x5 : Nat, k ≤ 60 ∧ i = .int .i64 k ∧ can ro = oIt S1 Q F1 k ∧ Blk wr nC 22 #[.float .f64 x3] ∧ Blk wr (nC + 1) 22 #[.float .f64 x4] ∧ Blk wr (nC + 1 + 1) 22 #[.float .f64 x5] ∧
      Blk wr nO 22 #[.float .f64 ro] ∧ Bks wr L5 ∧ Ext w wr) (fun i _ => 60 - (intOf i).toNat)
  case atStart => exact ⟨0, y, 0, 0, 0, by omega, rfl, by rw [ef]; rfl, g3, g4, g5, hO, by rw [hL5]; exact hL, hw⟩
  case round =>
    clear g3 g4 g5 hO hL hw
    obtain ⟨k, ro, x3, x4, x5, hk, rfl, ero, h3', h4', h5', hO, hL, hw⟩ := hrel
    subst hL5
    have hsz := hw.size
    have q1 := Q1.out
    have q2 := Q2.out
    have q3 := Q3.out
    have q4 := Q4.out
    rcases Nat.lt_or_ge k 60 with hn1 | hn1
    · go_wp2_with (first
        | (go_at_call 30; go_must (refine (look_c n1 nO nC (nC + 1) (nC + 1 + 1) _ ro x3 x4 x5 _ (by omega) (by omega) (by omega) (by omega) (by omega) hL.2.1 hO h3' h4' h5').mono ?_; rintro e v1 ⟨rfl, c3, c4, c5, hk, hx⟩; replace hL := Bks.keepB hk hL (fun x hx => by have := (HLT.out x hx); omega); replace hO := hk _ _ _ (by omega) (by omega) (by omega) hO; replace hw := hx _ hw (by omega) (by omega) (by omega); clear h3' h4' h5' hk hx; have kc := And.intro c3.cell (And.intro c4.cell (And.intro c5.cell (And.intro hL.1.cell hO.cell)))))
        | (go_at_call 26; go_must (refine (off_c _ _ _ _ _ _).mono ?_; rintro e v2 ⟨rf, rfl, hrf, hx⟩; clear kc; replace c3 := c3.ext (bareN hx rfl rfl rfl rfl); replace c4 := c4.ext (bareN hx rfl rfl rfl rfl); replace c5 := c5.ext (bareN hx rfl rfl rfl rfl); replace hO := hO.ext (bareN hx rfl rfl rfl rfl); replace hL := hL.ext (bareN hx rfl rfl rfl rfl); replace hw := hw.trans (bareN hx rfl rfl rfl rfl); clear hx; have kc := And.intro c3.cell (And.intro c4.cell (And.intro c5.cell (And.intro hL.1.cell hO.cell)))))
        | (with_reducible refine upon_fl rfl ?_; intro y' ny' hy')
        | (refine wpList_ownF rfl 22 _ _ rfl _ _ _ rfl rfl _ _ (show Blk _ _ _ _ from hO) (by kernel_rfl) ?_; go_must (intro u2 bn en sn zn; replace c3 := Blk.same (show Blk _ _ _ _ from c3) sn (by omega); replace c4 := Blk.same (show Blk _ _ _ _ from c4) sn (by omega); replace c5 := Blk.same (show Blk _ _ _ _ from c5) sn (by omega); replace hL := Bks.same hL sn (fun x hx => Nat.ne_of_lt (HLT.out x hx)); replace hw := en w (by repeat (first | exact hw | refine Ext.drewN ?_ _)) (by omega); clear kc hO en sn zn)))
      go_roundw
      case rel => exact ⟨k + 1, y', _, _, _, by omega, by simp, by rw [oIt_succ, hy']; simp only [fbin, oStep, *], c3, c4, c5, bn, hL, hw⟩
      case measure => simp [intOf]; omega
    · have hk60 : k = 60 := by omega
      subst hk60
      skip
      all_goals
        subst hp
        go_wp2_with (first
          | (go_at_call 30; go_must (refine (look_c n1 nO nC (nC + 1) (nC + 1 + 1) _ ro x3 x4 x5 _ (by omega) (by omega) (by omega) (by omega) (by omega) hL.2.1 hO h3' h4' h5').mono ?_; rintro e v1 ⟨rfl, c3, c4, c5, hk, hx⟩; replace hL := Bks.keepB hk hL (fun x hx => by have := (HLT.out x hx); omega); replace hO := hk _ _ _ (by omega) (by omega) (by omega) hO; replace hw := hx _ hw (by omega) (by omega) (by omega); clear h3' h4' h5' hk hx; have kc := And.intro c3.cell (And.intro c4.cell (And.intro c5.cell (And.intro hL.2.2.1.cell (And.intro hL.2.2.2.1.cell hO.cell))))))
          | (with_reducible refine upon_fl rfl ?_; intro y' ny' hy'))
        refine wp_region_all (fun g args v => (g = 23 ∧ SpOne fsqrt args v) ∨ (g = 24 ∧ SpAn args v)) (by kernel_rfl) (by kernel_rfl) ?_
        clear kc
        repeat (first
          | (refine wpR_op rfl (fun w1 hx K hK => ?_); have kc := And.intro (c3.ext (bareN hx rfl rfl rfl rfl)).cell (And.intro (c4.ext (bareN hx rfl rfl rfl rfl)).cell (And.intro (c5.ext (bareN hx rfl rfl rfl rfl)).cell (And.intro (hL.2.2.1.ext (bareN hx rfl rfl rfl rfl)).cell (And.intro (hL.2.2.2.1.ext (bareN hx rfl rfl rfl rfl)).cell (hO.ext (bareN hx rfl rfl rfl rfl)).cell)))); go_simp; refine hK _ ?_; clear hK K kc hx w1)
          | (refine wpR_op rfl (fun w1 hx K hK => ?_); go_simp; refine rel_fl rfl ?_; intro r hr; refine hK _ ?_; clear hK K hx w1)
          | (refine wpR_op rfl (fun w1 hx K hK => ?_); go_simp; refine rel_call (FlR.call (sqrt_c _ _)) (fun v => ?_) (fun v hv => ?_); (simp [spOne_iff]); obtain ⟨rt, rfl, hrt⟩ := hv; refine hK _ ?_; clear hK K hx w1)
          | (refine wpR_op rfl (fun w1 hx K hK => ?_); go_simp; refine rel_call (AnR.call (angle_c _ _ _)) (fun v => ?_) (fun v hv => ?_); (simp [spAn_iff]); subst hv; rw [Hang.out _ _ (by simp only [*, fbin]) (by simp only [*, fbin])]; refine hK _ ?_; clear hK K hx w1))
        refine wpR_nil ?_
        intro w2 hx _
        replace c3 := c3.ext (bareN hx rfl rfl rfl rfl)
        replace c4 := c4.ext (bareN hx rfl rfl rfl rfl)
        replace c5 := c5.ext (bareN hx rfl rfl rfl rfl)
        replace hO := hO.ext (bareN hx rfl rfl rfl rfl)
        replace hL := hL.ext (bareN hx rfl rfl rfl rfl)
        replace hw := hw.trans (bareN hx rfl rfl rfl rfl)
        clear hx
        have kc := And.intro c3.cell (And.intro c4.cell (And.intro c5.cell (And.intro hL.2.2.1.cell (And.intro hL.2.2.2.1.cell hO.cell))))
      · go_wp2_with (first
          | (go_at_call 27; go_must (refine (pathAngle_c _ _ _).mono ?_; rintro e v2 ⟨rfl, hx⟩; clear kc; replace c3 := c3.ext (bareN hx rfl rfl rfl rfl); replace c4 := c4.ext (bareN hx rfl rfl rfl rfl); replace c5 := c5.ext (bareN hx rfl rfl rfl rfl); replace hO := hO.ext (bareN hx rfl rfl rfl rfl); replace hL := hL.ext (bareN hx rfl rfl rfl rfl); replace hw := hw.trans (bareN hx rfl rfl rfl rfl); clear hx; have kc := And.intro c3.cell (And.intro c4.cell (And.intro c5.cell (And.intro hL.2.2.1.cell (And.intro hL.2.2.2.1.cell hO.cell)))); rw [Hlan.out _ _ (by simp only [*, fbin]) (by simp only [*, fbin])]))
          | (go_at_call 18; go_must (refine (signed_c _ _).mono ?_; rintro e v2 ⟨rfl, hx⟩; clear kc; replace c3 := c3.ext (bareN hx rfl rfl rfl rfl); replace c4 := c4.ext (bareN hx rfl rfl rfl rfl); replace c5 := c5.ext (bareN hx rfl rfl rfl rfl); replace hO := hO.ext (bareN hx rfl rfl rfl rfl); replace hL := hL.ext (bareN hx rfl rfl rfl rfl); replace hw := hw.trans (bareN hx rfl rfl rfl rfl); clear hx; have kc := And.intro c3.cell (And.intro c4.cell (And.intro c5.cell (And.intro hL.2.2.1.cell (And.intro hL.2.2.2.1.cell hO.cell))))))
          | (with_reducible refine upon_fl rfl ?_; intro y' ny' hy'))
        refine wp_region_all (fun g args v => (g = 29 ∧ SpThird args v) ∨ (g = 28 ∧ SpLong args v) ∨ (g = 20 ∧ SpNear args v)) (by kernel_rfl) (by kernel_rfl) ?_
        clear kc
        repeat (first
          | (refine wpR_op rfl (fun w1 hx K hK => ?_); have kc := And.intro (c3.ext (bareN hx rfl rfl rfl rfl)).cell (And.intro (c4.ext (bareN hx rfl rfl rfl rfl)).cell (And.intro (c5.ext (bareN hx rfl rfl rfl rfl)).cell (And.intro (hL.2.2.1.ext (bareN hx rfl rfl rfl rfl)).cell (And.intro (hL.2.2.2.1.ext (bareN hx rfl rfl rfl rfl)).cell (hO.ext (bareN hx rfl rfl rfl rfl)).cell)))); go_simp; refine hK _ ?_; clear hK K kc hx w1)
          | (refine wpR_op rfl (fun w1 hx K hK => ?_); go_simp; refine rel_fl rfl ?_; intro r hr; refine hK _ ?_; clear hK K hx w1)
          | (refine wpR_op rfl (fun w1 hx K hK => ?_); go_simp; refine rel_call (FlR.call (third_c _ _ _ _)) (fun v => ?_) (fun v hv => ?_); (simp [spThird_iff]); obtain ⟨rt, rfl, hrt⟩ := hv; refine hK _ ?_; clear hK K hx w1)
          | (refine wpR_op rfl (fun w1 hx K hK => ?_); go_simp; refine rel_call (FlR.call (longer_c _ _ _ _ _ _ _ _ _)) (fun v => ?_) (fun v hv => ?_); (simp [spLong_iff]); obtain ⟨rt, rfl, hrt⟩ := hv; refine hK _ ?_; clear hK K hx w1)
          | (refine wpR_op rfl (fun w1 hx K hK => ?_); go_simp; refine rel_call (ExR.call (nearest_c _ _)) (fun v => ?_) (fun v hv => ?_); (simp [spNear_iff]); subst hv; rw [Heas.out _ (by simp only [*, fbin, radP])]; refine hK _ ?_; clear hK K hx w1))
        refine wpR_nil ?_
        intro w2 hx _
        replace c3 := c3.ext (bareN hx rfl rfl rfl rfl)
        replace c4 := c4.ext (bareN hx rfl rfl rfl rfl)
        replace c5 := c5.ext (bareN hx rfl rfl rfl rfl)
        replace hO := hO.ext (bareN hx rfl rfl rfl rfl)
        replace hL := hL.ext (bareN hx rfl rfl rfl rfl)
        replace hw := hw.trans (bareN hx rfl rfl rfl rfl)
        clear hx
        have kc := And.intro c3.cell (And.intro c4.cell (And.intro c5.cell (And.intro hL.2.2.1.cell (And.intro hL.2.2.2.1.cell hO.cell))))
        go_wp2_with (first
          | (go_at_call 18; go_must (refine (signed_c _ _).mono ?_; rintro e v2 ⟨rfl, hx⟩; clear kc; replace c3 := c3.ext (bareN hx rfl rfl rfl rfl); replace c4 := c4.ext (bareN hx rfl rfl rfl rfl); replace c5 := c5.ext (bareN hx rfl rfl rfl rfl); replace hO := hO.ext (bareN hx rfl rfl rfl rfl); replace hL := hL.ext (bareN hx rfl rfl rfl rfl); replace hw := hw.trans (bareN hx rfl rfl rfl rfl); clear hx; have kc := And.intro c3.cell (And.intro c4.cell (And.intro c5.cell (And.intro hL.2.2.1.cell (And.intro hL.2.2.2.1.cell hO.cell))))))
          | (go_at_call 19; go_must (refine (norm_c _ _).mono ?_; rintro e v2 ⟨rfl, rfl⟩))
          | (refine wpList_own rfl 26 _ _ rfl _ _ rfl rfl _ _ (show Blk _ _ _ _ from hL.2.2.2.2.1) (by kernel_rfl) rfl (by simp [Value.oneCell']) ?_; go_must (intro w9 hb4 hk9 _; have hw9 : Ext w w9 := hk9 w (by repeat (first | exact hw | refine Ext.drewN ?_ _)) (by omega); have d4 := hb4.cell; clear kc hL hk9)))
        exact bodyPost_ret (v := .tuple #[placeV _ _, .nilIface]) (by simp [results, Tryd.results8, go_sem, d4]) rfl ⟨_, rfl, .nil, hw9⟩
end Go.Proofs.YtfhpnkmpjijebaaDoor

/- Walks: the globes that are known by name; a globe turned into the program's. -/
namespace Go.Proofs.YtfhpnkmpjijebaaDoor
open Go.RowKit Go.Fp Go.Rel
set_option maxRecDepth 20000

abbrev sWgs : ByteArray := { data := #[119, 103, 115, 56, 52] }
abbrev sGrs : ByteArray := { data := #[103, 114, 115, 56, 48] }
abbrev sBes : ByteArray := { data := #[98, 101, 115, 115, 101, 108] }
abbrev sAir : ByteArray := { data := #[97, 105, 114, 121] }
abbrev sBal : ByteArray := { data := #[98, 97, 108, 108] }

/-- what a name stands for: half the axis, the flattening, the error's number -/
inductive KnownG : ByteArray → Nat → Nat → Int → Prop
  | wgs : KnownG sWgs 4708606483430899712 4569877477558837545 0
  | grs : KnownG sGrs 4708606483430899712 4569877477596733701 0
  | bes : KnownG sBes 4708605689028379935 4569854332699817238 0
  | air : KnownG sAir 4708605867528294498 4569849899622835569 0
  | bal : KnownG sBal 4708598820135501824 0 0
  | not {s : ByteArray} (h1 : (s.toList == [119, 103, 115, 56, 52]) = false) (h2 : (s.toList == [103, 114, 115, 56, 48]) = false) (h3 : (s.toList == [98, 101, 115, 115, 101, 108]) = false) (h4 : (s.toList == [97, 105, 114, 121]) = false) (h5 : (s.toList == [98, 97, 108, 108]) = false) : KnownG s 0 0 5
theorem ball_c (a f : Nat) (w : World) : Calls Tryd.prog 7 #[globeV a f] w (ExR (globeV a f) w) := by
  go_enter Tryd.func7, Tryd.ntmps7
  go_wp2
  exact bodyPost_ret (v := globeV a f) (by simp [results, Tryd.results7, go_sem]) rfl ⟨rfl, by repeat (first | exact Ext.refl _ | refine Ext.drew ?_ | refine Ext.alloc ?_ _ | refine Ext.setCell ?_ (by simp) _)⟩
end Go.Proofs.YtfhpnkmpjijebaaDoor

/- The walk of the statement PathBack: what it is told. -/
namespace Go.Proofs.YtfhpnkmpjijebaaDoor
open Go.RowKit Go.Fp Go.Fp.Tri Go.Rel
set_option maxRecDepth 20000
abbrev c6e6 : Nat := 4708200461918797824
abbrev c65 : Nat := 4708737332830797824
abbrev c01 : Nat := 4576918229304087675
theorem v_6e6 : Fp.Fin c6e6 ∧ vl c6e6 = 6000000 := vl_const (s := false) (m := 6442450944000000) (k := 30) (by decide +kernel) (by decide +kernel)
theorem v_65 : Fp.Fin c65 ∧ vl c65 = 6500000 := vl_const (s := false) (m := 6979321856000000) (k := 30) (by decide +kernel) (by decide +kernel)
theorem v_01 : Fp.Fin c01 ∧ vl c01 = 5764607523034235 / 576460752303423488 := vl_const (s := false) (m := 5764607523034235) (k := 59) (by decide +kernel) (by decide +kernel)
theorem v_far2 : Fp.Fin far2 ∧ vl far2 = 20000000 := vl_const (s := false) (m := 5368709120000000) (k := 28) (by decide +kernel) (by decide +kernel)
theorem v_1e9 : Fp.Fin cHi ∧ vl cHi = 1000000000 := vl_const (s := false) (m := 8388608000000000) (k := 23) (by decide +kernel) (by decide +kernel)
theorem v_m1e7 : Fp.Fin cLo ∧ vl cLo = -10000000 := vl_const (s := true) (m := 5368709120000000) (k := 29) (by decide +kernel) (by decide +kernel)
theorem v_quarter : Fp.Fin 4598175219545276416 ∧ vl 4598175219545276416 = 1 / 4 := vl_const (s := false) (m := 4503599627370496) (k := 54) (by decide +kernel) (by decide +kernel)
theorem btw_of {x lo hi : Nat} (hx : Fp.Fin x) (hl : Fp.Fin lo) (hh : Fp.Fin hi) (h1 : vl lo ≤ vl x) (h2 : vl x ≤ vl hi) : btw x lo hi = true := by
  unfold btw
  rw [(fge_vl hx hl).2 h1, (fle_vl hx hh).2 h2]
  rfl
theorem can_num {x c : Nat} (h : can x = c) (hc : isNan c = false) : x = c := by
  cases hn : isNan x
  · rw [can_of_not hn] at h; exact h
  · rw [can_of_nan hn] at h
    subst h
    exact absurd hc (by decide +kernel)
theorem eq_of_can {x c : Nat} (hc : Fp.Fin c) (h : can x = c) : x = c := can_num h (by
  obtain ⟨s, m, i, hr⟩ := hc
  unfold isNan
  rw [hr]; rfl)
/-- all that the walk is told -/
structure ToldB (a f : Nat) (lonA latA lonB latB : Int) (FAR : Nat) (OUT IN lo la : Int) (X Y Z X' Y' Z' : Nat) : Prop where
  bet : ∀ w, Calls Tryd.prog 6 #[globeV a f, placeV lonA latA, placeV lonB latB] w (ExR (.tuple #[.agg #[.float .f64 FAR, .int .i64 OUT, .int .i64 IN], .nilIface]) w)
  rea : ∀ w, Calls Tryd.prog 8 #[globeV a f, placeV lonA latA, .int .i64 OUT, .float .f64 FAR] w (ExR (.tuple #[placeV lo la, .nilIface]) w)
  vec : ∀ w, Calls Tryd.prog 9 #[globeV a f, placeV lo la, .float .f64 0] w (ExR (.tuple #[vecV X Y Z, .int .i64 0]) w)
  vecB : ∀ w, Calls Tryd.prog 9 #[globeV a f, placeV lonB latB, .float .f64 0] w (ExR (.tuple #[vecV X' Y' Z', .int .i64 0]) w)
  len : ∀ r1 r2 r3, can r1 = fsub X X' → can r2 = fsub Y Y' → can r3 = fsub Z Z' → ∀ w, Calls Tryd.prog 10 #[vecV r1 r2 r3] w
    (fun e w' => ∃ r, e = .returned (.float .f64 r) ∧ (FloatKind.f64.format.order r c02 == some .lt || FloatKind.f64.format.order r c02 == some .eq) = true ∧ Ext w w')
theorem vec_told {a f : Nat} {lo la : Int} (ok : okG a f = true) (l1 : -90000000000 ≤ la) (l2 : la ≤ 90000000000) (fx : Fp.Fin (fmul (vecD a f la 0) (cosP lo))) (fy : Fp.Fin (fmul (vecD a f la 0) (sinP lo))) (fz : Fp.Fin (vecZ a f la 0)) (w : World) :
    Calls Tryd.prog 9 #[globeV a f, placeV lo la, .float .f64 0] w (ExR (.tuple #[vecV (fmul (vecD a f la 0) (cosP lo)) (fmul (vecD a f la 0) (sinP lo)) (vecZ a f la 0), .int .i64 0]) w) := by
  have h0 : btw 0 cLo cHi = true := btw_of v_0.1 v_m1e7.1 v_1e9.1 (by rw [v_0.2, v_m1e7.2]; grind) (by rw [v_0.2, v_1e9.2]; grind)
  refine (vecOf_c (VecIs.ok (lon := lo) ok l2 l1 h0) w).mono ?_
  obtain ⟨⟨fc, _⟩, ⟨fs, _⟩⟩ := cis_near lo
  rw [fc.can, fs.can]
  rintro e w' ⟨x, y, z, rfl, hx, hy, hz, hw⟩
  obtain rfl := eq_of_can fx hx
  obtain rfl := eq_of_can fy hy
  obtain rfl := eq_of_can fz hz
  exact ⟨rfl, hw⟩
theorem told_b {a f : Nat} {lonA latA lonB latB n : Int} (b1 : fge a c6e6 = true) (b2 : fle a c65 = true) (b3 : fge f 0 = true) (b4 : fle f c01 = true) (hn : n = greatP lonA latA lonB latB) (n1 : 1000000000 ≤ n) (n2 : n ≤ 170000000000)
    (p1 : -80000000000 ≤ latA) (p2 : latA ≤ 80000000000) (q1 : -80000000000 ≤ latB) (q2 : latB ≤ 80000000000) : ∃ FAR OUT IN lo la X Y Z X' Y' Z', ToldB a f lonA latA lonB latB FAR OUT IN lo la X Y Z X' Y' Z' := by
  obtain ⟨fa, a0, a1⟩ := btw_vl v_6e6.1 v_65.1 b1 b2
  obtain ⟨ff, f0, f1⟩ := btw_vl v_0.1 v_01.1 b3 b4
  rw [v_6e6.2] at a0
  rw [v_65.2] at a1
  rw [v_0.2] at f0
  rw [v_01.2] at f1
  have f1 : vl f ≤ 10001 / 1000000 := by grind
  have e : Ends ⟨a, f, lonA, latA, lonB, latB⟩ := ends_ok ff f0 f1 p1 p2 q1 q2 hn n1 n2
  have s : Snd a f 0 := ⟨fa, by grind, by grind, ff, f0, f1, v_0.1, by rw [v_0.2]; grind, by rw [v_0.2]; grind⟩
  have ok : okG a f = true := by
    unfold okG
    rw [btw_of fa v_one.1 v_1e9.1 (by rw [v_one.2]; grind) (by rw [v_1e9.2]; grind), btw_of ff v_0.1 v_quarter.1 (by rw [v_0.2]; grind) (by rw [v_quarter.2]; grind)]
    rfl
  have ha : AOk ⟨a, f, lonA, latA, lonB, latB⟩ := ⟨fa, a0, a1⟩
  obtain ⟨g, y, hg, hf⟩ := between_fnd e
  have w := way_ok e ha hf.at1
  obtain ⟨hno, l1, l2, _⟩ := lat_ok e w
  have hd := dist_ok e s (show vl a ≤ 6500001 by grind) (show -90000000000 ≤ latB by omega) (show latB ≤ 90000000000 by omega) hf w
  have hb : btw (LineV.far ⟨a, f, lonA, latA, lonB, latB⟩ y) 0 far2 = true := btw_of w.ffar v_0.1 v_far2.1 (by rw [v_0.2]; exact w.far0) (by rw [v_far2.2]; exact w.far1)
  have ffar := w.ffar
  generalize hV : LineV.mk a f lonA latA lonB latB = V at *
  have ea : V.a = a := by rw [← hV]
  have ef : V.f = f := by rw [← hV]
  have e1 : V.lonA = lonA := by rw [← hV]
  have e2 : V.latA = latA := by rw [← hV]
  have e3 : V.lonB = lonB := by rw [← hV]
  have e4 : V.latB = latB := by rw [← hV]
  refine ⟨V.far y, V.outA y, V.inA y, lonR V y, latR V y, _, _, _, _, _, _, ⟨fun u => ?_, fun u => ?_, fun u => vec_told ok l1 l2 (ea ▸ ef ▸ hd.fx') (ea ▸ ef ▸ hd.fy') (ea ▸ ef ▸ hd.fz') u, fun u => vec_told ok (by omega) (by omega) (ea ▸ ef ▸ e3 ▸ e4 ▸ hd.fx) (ea ▸ ef ▸ e3 ▸ e4 ▸ hd.fy) (ea ▸ ef ▸ e4 ▸ hd.fz) u, ?_⟩⟩
  · have b := between_yes (A := fun _ => ⟨0, 0, none⟩) V u (by rw [ea, ef]; exact ok) (by rw [e2]; omega) (by rw [e2]; omega) (by rw [e4]; omega) (by rw [e4]; omega) hg
    rw [ea, ef, e1, e2, e3, e4] at b
    refine b.mono ?_
    rintro e w' ⟨far, ev, rfl, hfar, he, hx⟩
    cases he
    obtain rfl := eq_of_can ffar hfar
    exact ⟨rfl, hx⟩
  · have b := reach_ok0 (A := fun _ => ⟨0, 0, none⟩) (rvOf V y) u (by show okG V.a V.f = true; rw [ea, ef]; exact ok) (by show V.latA ≤ _; rw [e2]; omega) (by show _ ≤ V.latA; rw [e2]; omega) hb hno
    have b2 : Calls Tryd.prog 8 #[globeV V.a V.f, placeV V.lonA V.latA, .int .i64 (V.outA y), .float .f64 (V.far y)] u (ReachR (fun _ => ⟨0, 0, none⟩) (lonR V y) (latR V y) 0 u) := b
    rw [ea, ef, e1, e2] at b2
    refine b2.mono ?_
    rintro e w' ⟨ev, rfl, he, hx⟩
    cases he
    exact ⟨rfl, hx⟩
  · intro r1 r2 r3 h1 h2 h3 u
    refine (lengthOf_c r1 r2 r3 u).mono ?_
    rintro e w' ⟨r, rfl, hr, hx⟩
    refine ⟨r, rfl, ?_, hx⟩
    have le := hd.le
    rw [ea, ef, e3, e4] at le
    rw [h1, h2, h3] at hr
    rw [← hr] at le
    unfold fle at le
    rw [order_canL r (c := c02) (by decide +kernel)] at le
    exact le
end Go.Proofs.YtfhpnkmpjijebaaDoor

/- The walk of the statement PathBack, where it promises something. Printed by gen_pathback.py. -/
namespace Go.Proofs.YtfhpnkmpjijebaaDoor
open Go.RowKit Go.Fp Go.Fp.Tri Go.Rel
set_option maxRecDepth 20000
theorem setCell_other' (w : World) (n i k : Nat) (v : Value) (h : k ≠ n) : (w.setCell ⟨n, i, none⟩ v).heap[k]? = w.heap[k]? := Below.heap_setCell _ _ _ _ h
theorem blk_set' {w : World} {n i : Nat} {t : TypeId} {cs : Array Value} (v : Value) (h : Blk w n t cs) : Blk (w.setCell ⟨n, i, none⟩ v) n t (cs.setIfInBounds i v) := by
  unfold Blk at *
  simp [World.setCell, Array.getElem?_modify, h]
/-- a block made behind all that is known -/
theorem fin_new {w w3 : World} {l : List (Nat × TypeId × Array Value)} {t : TypeId} {cs : Array Value} (h : Ext w w3) (hl : Bks w3 l) :
    Ext w (w3.alloc (.cells cs t)) ∧ Bks (w3.alloc (.cells cs t)) l ∧ Blk (w3.alloc (.cells cs t)) w3.heap.size t cs :=
  ⟨h.alloc _, hl.ext ((Ext.refl _).alloc _), Blk.new _ _ _⟩
theorem fin_two {w w3 : World} {l : List (Nat × TypeId × Array Value)} {n : Nat} {t : TypeId} {a b u v : Value} (h : Ext w w3) (hl : Bks w3 l) (hz : Blk w3 n t #[a, b]) (hlt : ∀ x ∈ l, x.1 < n) (hw : w.heap.size ≤ n) :
    Ext w ((w3.setCell ⟨n, 0, none⟩ u).setCell ⟨n, 1, none⟩ v) ∧ Bks ((w3.setCell ⟨n, 0, none⟩ u).setCell ⟨n, 1, none⟩ v) l ∧ Blk ((w3.setCell ⟨n, 0, none⟩ u).setCell ⟨n, 1, none⟩ v) n t #[u, v] := by
  have ho : ∀ k, k ≠ n → ((w3.setCell ⟨n, 0, none⟩ u).setCell ⟨n, 1, none⟩ v).heap[k]? = w3.heap[k]? := fun k hk => by
    rw [setCell_other' _ _ _ _ _ hk, setCell_other' _ _ _ _ _ hk]
  refine ⟨(h.setCell hw _).setCell hw _, hl.same ho (fun x hx => Nat.ne_of_lt (hlt x hx)), ?_⟩
  simpa using blk_set' (i := 1) v (blk_set' (i := 0) u hz)
theorem fin_three {w w3 : World} {l : List (Nat × TypeId × Array Value)} {n : Nat} {t : TypeId} {a b c u v x : Value} (h : Ext w w3) (hl : Bks w3 l) (hz : Blk w3 n t #[a, b, c]) (hlt : ∀ x ∈ l, x.1 < n) (hw : w.heap.size ≤ n) :
    Ext w (((w3.setCell ⟨n, 0, none⟩ u).setCell ⟨n, 1, none⟩ v).setCell ⟨n, 2, none⟩ x) ∧ Bks (((w3.setCell ⟨n, 0, none⟩ u).setCell ⟨n, 1, none⟩ v).setCell ⟨n, 2, none⟩ x) l ∧
    Blk (((w3.setCell ⟨n, 0, none⟩ u).setCell ⟨n, 1, none⟩ v).setCell ⟨n, 2, none⟩ x) n t #[u, v, x] := by
  have ho : ∀ k, k ≠ n → (((w3.setCell ⟨n, 0, none⟩ u).setCell ⟨n, 1, none⟩ v).setCell ⟨n, 2, none⟩ x).heap[k]? = w3.heap[k]? := fun k hk => by
    rw [setCell_other' _ _ _ _ _ hk, setCell_other' _ _ _ _ _ hk, setCell_other' _ _ _ _ _ hk]
  refine ⟨((h.setCell hw _).setCell hw _).setCell hw _, hl.same ho (fun x hx => Nat.ne_of_lt (hlt x hx)), ?_⟩
  simpa using blk_set' (i := 2) x (blk_set' (i := 1) v (blk_set' (i := 0) u hz))

/-- the cells of a globe and of two places -/
theorem cells3 {w' : World} {n a f : Nat} {p q r s : Int} {tG tP : TypeId} (h : Bks w' [(n, tG, #[Value.float .f64 a, Value.float .f64 f]), (n + 1, tP, #[Value.int .i64 p, Value.int .i64 q]), (n + 1 + 1, tP, #[Value.int .i64 r, Value.int .i64 s])]) :
    w'.cell? ⟨n, 0, none⟩ = some (.float .f64 a) ∧ w'.cell? ⟨n, 1, none⟩ = some (.float .f64 f) ∧ w'.cell? ⟨n + 1, 0, none⟩ = some (.int .i64 p) ∧ w'.cell? ⟨n + 1, 1, none⟩ = some (.int .i64 q) ∧
    w'.cell? ⟨n + 1 + 1, 0, none⟩ = some (.int .i64 r) ∧ w'.cell? ⟨n + 1 + 1, 1, none⟩ = some (.int .i64 s) :=
  ⟨h.1.cell 0, h.1.cell 1, h.2.1.cell 0, h.2.1.cell 1, h.2.2.1.cell 0, h.2.2.1.cell 1⟩


/-- the cells of a globe, a place and a line -/
theorem cellsL {w' : World} {n nb a f far : Nat} {p q r s o i : Int} {tG tP tL : TypeId} (h : Bks w' [(n, tG, #[Value.float .f64 a, Value.float .f64 f]), (n + 1, tP, #[Value.int .i64 p, Value.int .i64 q]), (n + 1 + 1, tP, #[Value.int .i64 r, Value.int .i64 s]), (nb, tL, #[Value.float .f64 far, Value.int .i64 o, Value.int .i64 i])]) :
    w'.cell? ⟨n, 0, none⟩ = some (.float .f64 a) ∧ w'.cell? ⟨n, 1, none⟩ = some (.float .f64 f) ∧ w'.cell? ⟨n + 1, 0, none⟩ = some (.int .i64 p) ∧ w'.cell? ⟨n + 1, 1, none⟩ = some (.int .i64 q) ∧
    w'.cell? ⟨nb, 0, none⟩ = some (.float .f64 far) ∧ w'.cell? ⟨nb, 1, none⟩ = some (.int .i64 o) :=
  ⟨h.1.cell 0, h.1.cell 1, h.2.1.cell 0, h.2.1.cell 1, h.2.2.2.1.cell 0, h.2.2.2.1.cell 1⟩
set_option maxHeartbeats 40000000 in
theorem pathBack_in (a f : Nat) (lonA latA lonB latB n : Int) (w : World) (b1 : fge a c6e6 = true) (b2 : fle a c65 = true) (b3 : fge f 0 = true) (b4 : fle f c01 = true) (hn : n = greatP lonA latA lonB latB) (n1 : 1000000000 ≤ n) (n2 : n ≤ 170000000000)
    (p1 : -80000000000 ≤ latA) (p2 : latA ≤ 80000000000) (q1 : -80000000000 ≤ latB) (q2 : latB ≤ 80000000000) : Calls Tryd.prog 3 #[globeV a f, placeV lonA latA, placeV lonB latB] w (ExR (.bool true) w) := by
  obtain ⟨FAR, OUT, IN, lo, la, X, Y, Z, X', Y', Z', told⟩ := told_b b1 b2 b3 b4 hn n1 n2 p1 p2 q1 q2
  have HT := Lib.hid told
  clear told
  have HG : Hid (∀ w, Calls Tryd.prog 5 #[placeV lonA latA, placeV lonB latB] w (ExR (.int .i64 n) w)) := Lib.hid (by rw [hn]; exact greatOf_c lonA latA lonB latB)
  clear hn
  have G1 : (FloatKind.f64.format.order a c6e6 == some .gt || FloatKind.f64.format.order a c6e6 == some .eq) = true := b1
  have G2 : (FloatKind.f64.format.order a c65 == some .lt || FloatKind.f64.format.order a c65 == some .eq) = true := b2
  have G3 : (FloatKind.f64.format.order f 0 == some .gt || FloatKind.f64.format.order f 0 == some .eq) = true := b3
  have G4 : (FloatKind.f64.format.order f c01 == some .lt || FloatKind.f64.format.order f c01 == some .eq) = true := b4
  clear b1 b2 b3 b4
  go_enter Tryd.func3, Tryd.ntmps3
  go_wp2_with (first
    | (go_at_call 4; go_must (refine (lined_c0 (A := fun _ => ⟨0, 0, none⟩) _).mono ?_; rintro e w1 ⟨rfl, hx1⟩; obtain ⟨g1, g2, g3, hw⟩ := ext3 hx1; clear hx1; have hB : Bks w1 [(w.heap.size, 24, #[Value.float .f64 a, Value.float .f64 f]), (w.heap.size + 1, 26, #[Value.int .i64 lonA, Value.int .i64 latA]), (w.heap.size + 1 + 1, 26, #[Value.int .i64 lonB, Value.int .i64 latB])] := ⟨g1, g2, g3, trivial⟩; clear g1 g2 g3; have kc := And.intro hB.1.cell (And.intro hB.2.1.cell hB.2.2.1.cell)))
    | (go_at_call 5; go_must (refine (HG.out _).mono ?_; rintro e wg ⟨rfl, hx⟩; clear kc; replace hB := hB.ext (bareN hx rfl rfl rfl rfl); replace hw := hw.trans (bareN hx rfl rfl rfl rfl); clear hx; have kc := And.intro hB.1.cell (And.intro hB.2.1.cell hB.2.2.1.cell))))
  have kl := And.intro hB.1.lt (And.intro hB.2.1.lt hB.2.2.1.lt)
  go_cut [10, 11] (fun s1 s2 wx => ∃ (nb : Nat), s1 = .pointer (some ⟨nb, 0, none⟩) ∧ s2 = .nilIface ∧ Ext w wx ∧ Bks wx [(w.heap.size, 24, #[Value.float .f64 a, Value.float .f64 f]), (w.heap.size + 1, 26, #[Value.int .i64 lonA, Value.int .i64 latA]), (w.heap.size + 1 + 1, 26, #[Value.int .i64 lonB, Value.int .i64 latB])] ∧ Blk wx nb 30 #[.float .f64 FAR, .int .i64 OUT, .int .i64 IN])
  case first =>
    have fr1 := Lib.hid hB.fresh
    go_region_held3 (fun w' => w'.cell? ⟨w.heap.size, 0, none⟩ = some (.float .f64 a) ∧ w'.cell? ⟨w.heap.size, 1, none⟩ = some (.float .f64 f) ∧ w'.cell? ⟨w.heap.size + 1, 0, none⟩ = some (.int .i64 lonA) ∧ w'.cell? ⟨w.heap.size + 1, 1, none⟩ = some (.int .i64 latA) ∧ w'.cell? ⟨w.heap.size + 1 + 1, 0, none⟩ = some (.int .i64 lonB) ∧ w'.cell? ⟨w.heap.size + 1 + 1, 1, none⟩ = some (.int .i64 latB))
      (first | (refine cells3 (Bks.ext hB3 ?_); (repeat (first | exact Ext.refl _ | refine Ext.drew ?_ | refine Ext.alloc ?_ _)); done) | (refine cells3 (Bks.ext hB2 ?_); (repeat (first | exact Ext.refl _ | refine Ext.drew ?_ | refine Ext.alloc ?_ _)); done) | (refine cells3 (Bks.ext hB ?_); (repeat (first | exact Ext.refl _ | refine Ext.drew ?_ | refine Ext.alloc ?_ _)); done) | (exact cells3 (fin_three (hw.trans (hE.trans hF)) hB3 hz fr2.out (hw.trans hE).size).2.1) | (refine cells3 (Bks.ext (fin_three (hw.trans (hE.trans hF)) hB3 hz fr2.out (hw.trans hE).size).2.1 ?_); exact Ext.drew (Ext.refl _)) | (exact cells3 (fin_three (hw.trans (hE.trans hF)) hB3 hz fr1.out hw.size).2.1) | (refine cells3 (Bks.ext (fin_three (hw.trans (hE.trans hF)) hB3 hz fr1.out hw.size).2.1 ?_); exact Ext.drew (Ext.refl _)))
      (first
      | (go_at_call 7; refine (ball_c a f _).mono ?_; rintro e w2 ⟨rfl, hx⟩; have hE : Ext wg w2 := (by first | exact (ext1 hx.of_drew).2 | exact hx.of_drew | exact bareN hx rfl rfl rfl rfl); (first | (have hz := (ext1 hx.of_drew).1) | skip); clear kc kl; have hB2 := hB.ext hE; have fr2 := Lib.hid hB2.fresh; have kc := And.intro hB2.1.cell (And.intro hB2.2.1.cell hB2.2.2.1.cell); have kl := And.intro hB2.1.lt (And.intro hB2.2.1.lt hB2.2.2.1.lt))
      | (go_at_call 6; refine (HT.out.bet _).mono ?_; rintro e w3 ⟨rfl, hx'⟩; have hF : Ext w2 w3 := (by first | exact bareN hx' rfl rfl rfl rfl | exact bareN (ext1 hx').2 rfl rfl rfl rfl); (first | (have hz := (ext1 hx').1) | (replace hz := hz.ext hF) | skip); have hB3 := hB2.ext hF; clear kc; (first | (have cZ := hz.cell; have fZ := hz.frozen) | skip)))
    all_goals
      have hL3 : Ext w w3 := (hw.trans hE).trans hF
      have s1 : w.heap.size ≤ wg.heap.size := hw.size
      have s2 : w.heap.size ≤ w2.heap.size := (hw.trans hE).size
      (try go_wp2_with fail)
      go_meet
      first
        | exact ⟨w3.heap.size, rfl, rfl, fin_new hL3 hB3⟩
        | exact ⟨w2.heap.size, rfl, rfl, fin_three hL3 hB3 hz fr2.out s2⟩
        | exact ⟨wg.heap.size, rfl, rfl, fin_three hL3 hB3 hz fr1.out s1⟩
  case rest =>
    clear hB hw kc kl
    obtain ⟨nb, rfl, rfl, hw, hBb, hP⟩ := hcut
    have hB : Bks wc [(w.heap.size, 24, #[Value.float .f64 a, Value.float .f64 f]), (w.heap.size + 1, 26, #[Value.int .i64 lonA, Value.int .i64 latA]), (w.heap.size + 1 + 1, 26, #[Value.int .i64 lonB, Value.int .i64 latB]), (nb, 30, #[Value.float .f64 FAR, Value.int .i64 OUT, Value.int .i64 IN])] := ⟨hBb.1, hBb.2.1, hBb.2.2.1, hP, trivial⟩
    clear hBb hP
    have kc := And.intro hB.1.cell (And.intro hB.2.1.cell (And.intro hB.2.2.1.cell hB.2.2.2.1.cell))
    have kl := And.intro hB.1.lt (And.intro hB.2.1.lt (And.intro hB.2.2.1.lt hB.2.2.2.1.lt))
    go_wp2_with fail
    go_cut [11, 12] (fun s1 s2 wx => ∃ (nq : Nat), s1 = .nilIface ∧ s2 = .pointer (some ⟨nq, 0, none⟩) ∧ Ext w wx ∧ Bks wx [(w.heap.size, 24, #[Value.float .f64 a, Value.float .f64 f]), (w.heap.size + 1, 26, #[Value.int .i64 lonA, Value.int .i64 latA]), (w.heap.size + 1 + 1, 26, #[Value.int .i64 lonB, Value.int .i64 latB]), (nb, 30, #[Value.float .f64 FAR, Value.int .i64 OUT, Value.int .i64 IN])] ∧ Blk wx nq 26 #[.int .i64 lo, .int .i64 la])
    case first =>
      have fr1 := Lib.hid hB.fresh
      go_region_held3 (fun w' => w'.cell? ⟨w.heap.size, 0, none⟩ = some (.float .f64 a) ∧ w'.cell? ⟨w.heap.size, 1, none⟩ = some (.float .f64 f) ∧ w'.cell? ⟨w.heap.size + 1, 0, none⟩ = some (.int .i64 lonA) ∧ w'.cell? ⟨w.heap.size + 1, 1, none⟩ = some (.int .i64 latA) ∧ w'.cell? ⟨nb, 0, none⟩ = some (.float .f64 FAR) ∧ w'.cell? ⟨nb, 1, none⟩ = some (.int .i64 OUT))
        (first | (refine cellsL (Bks.ext hB3 ?_); (repeat (first | exact Ext.refl _ | refine Ext.drew ?_ | refine Ext.alloc ?_ _)); done) | (refine cellsL (Bks.ext hB2 ?_); (repeat (first | exact Ext.refl _ | refine Ext.drew ?_ | refine Ext.alloc ?_ _)); done) | (refine cellsL (Bks.ext hB ?_); (repeat (first | exact Ext.refl _ | refine Ext.drew ?_ | refine Ext.alloc ?_ _)); done) | (exact cellsL (fin_two (hw.trans (hE.trans hF)) hB3 hz fr2.out (hw.trans hE).size).2.1) | (refine cellsL (Bks.ext (fin_two (hw.trans (hE.trans hF)) hB3 hz fr2.out (hw.trans hE).size).2.1 ?_); exact Ext.drew (Ext.refl _)) | (exact cellsL (fin_two (hw.trans (hE.trans hF)) hB3 hz fr1.out hw.size).2.1) | (refine cellsL (Bks.ext (fin_two (hw.trans (hE.trans hF)) hB3 hz fr1.out hw.size).2.1 ?_); exact Ext.drew (Ext.refl _)))
        (first
      | (go_at_call 7; refine (ball_c a f _).mono ?_; rintro e w2 ⟨rfl, hx⟩; have hE : Ext wc w2 := (by first | exact (ext1 hx.of_drew).2 | exact hx.of_drew | exact bareN hx rfl rfl rfl rfl); (first | (have hz := (ext1 hx.of_drew).1) | skip); clear kc kl; have hB2 := hB.ext hE; have fr2 := Lib.hid hB2.fresh; have kc := And.intro hB2.1.cell (And.intro hB2.2.1.cell (And.intro hB2.2.2.1.cell hB2.2.2.2.1.cell)); have kl := And.intro hB2.1.lt (And.intro hB2.2.1.lt (And.intro hB2.2.2.1.lt hB2.2.2.2.1.lt)))
      | (go_at_call 8; refine (HT.out.rea _).mono ?_; rintro e w3 ⟨rfl, hx'⟩; have hF : Ext w2 w3 := (by first | exact bareN hx' rfl rfl rfl rfl | exact bareN (ext1 hx').2 rfl rfl rfl rfl); (first | (have hz := (ext1 hx').1) | (replace hz := hz.ext hF) | skip); have hB3 := hB2.ext hF; clear kc; (first | (have cZ := hz.cell; have fZ := hz.frozen) | skip)))
      all_goals
        have hL3 : Ext w w3 := (hw.trans hE).trans hF
        have s1 : w.heap.size ≤ wc.heap.size := hw.size
        have s2 : w.heap.size ≤ w2.heap.size := (hw.trans hE).size
        (try go_wp2_with fail)
        go_meet
        first
          | exact ⟨w3.heap.size, rfl, rfl, fin_new hL3 hB3⟩
          | exact ⟨w2.heap.size, rfl, rfl, fin_two hL3 hB3 hz fr2.out s2⟩
          | exact ⟨wc.heap.size, rfl, rfl, fin_two hL3 hB3 hz fr1.out s1⟩
    case rest =>
      clear hB hw kc kl
      obtain ⟨nq, rfl, rfl, hw, hBb, hP⟩ := hcut
      have hB : Bks _ [(w.heap.size, 24, #[Value.float .f64 a, Value.float .f64 f]), (w.heap.size + 1, 26, #[Value.int .i64 lonA, Value.int .i64 latA]), (w.heap.size + 1 + 1, 26, #[Value.int .i64 lonB, Value.int .i64 latB]), (nb, 30, #[Value.float .f64 FAR, Value.int .i64 OUT, Value.int .i64 IN]), (nq, 26, #[Value.int .i64 lo, Value.int .i64 la])] := ⟨hBb.1, hBb.2.1, hBb.2.2.1, hBb.2.2.2.1, hP, trivial⟩
      clear hBb hP
      have kc := And.intro hB.1.cell (And.intro hB.2.2.1.cell hB.2.2.2.2.1.cell)
      have t1 : Hid True := trivial
      have t2 : Hid True := trivial
      go_wp2_with (first
        | (go_at_call 9; clear t1; go_must (refine (HT.out.vec _).mono ?_; rintro e v1 ⟨rfl, hx⟩; clear kc; replace hB := hB.ext (bareN hx rfl rfl rfl rfl); replace hw := hw.trans (bareN hx rfl rfl rfl rfl); clear hx; have kc := And.intro hB.1.cell (And.intro hB.2.2.1.cell hB.2.2.2.2.1.cell)))
        | (go_at_call 9; go_must (refine (HT.out.vecB _).mono ?_; rintro e v2 ⟨rfl, hx⟩; clear kc; replace hB := hB.ext (bareN hx rfl rfl rfl rfl); replace hw := hw.trans (bareN hx rfl rfl rfl rfl); clear hx; have kc := hB.1.cell))
        | (clear t2; refine wpList_own rfl 40 _ _ rfl _ _ rfl rfl _ _ (Blk.new _ _ _) (by kernel_rfl) rfl (by simp [Value.oneCell']) ?_; go_must (intro u bn en sn; replace hw := en _ (by repeat (first | exact hw | refine Ext.drewN ?_ _ | refine Ext.alloc ?_ _)) hw.size; replace hB := (hB.keep _ sn).cons bn; clear kc bn en sn; have kc := And.intro hB.2.1.cell hB.2.2.2.1.cell))
        | (refine wpList_own rfl 40 _ _ rfl _ _ rfl rfl _ _ (Blk.new _ _ _) (by kernel_rfl) rfl (by simp [Value.oneCell']) ?_; go_must (intro u bn en sn; replace hw := en _ (by repeat (first | exact hw | refine Ext.drewN ?_ _ | refine Ext.alloc ?_ _)) hw.size; replace hB := (hB.keep _ sn).cons bn; clear kc bn en sn; have kc := And.intro hB.1.cell hB.2.1.cell))
        | (with_reducible refine upon_fl rfl ?_; intro r nr hr)
        | (go_at_call 10; go_must (refine (HT.out.len _ _ _ (by simp only [*, fbin, fsub_can]) (by simp only [*, fbin, fsub_can]) (by simp only [*, fbin, fsub_can]) _).mono ?_; rintro e v3 ⟨rl, rfl, ho, hx⟩; clear kc; replace hB := hB.ext (bareN hx rfl rfl rfl rfl); replace hw := hw.trans (bareN hx rfl rfl rfl rfl); clear hx; skip)))
      all_goals go_ret
      all_goals exact ⟨rfl, hw⟩
end Go.Proofs.YtfhpnkmpjijebaaDoor
