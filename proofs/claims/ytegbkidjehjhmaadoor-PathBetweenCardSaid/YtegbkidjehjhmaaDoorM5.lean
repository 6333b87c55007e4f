/- Walk: where one comes to along a geodesic, package path's. -/
import Derived.Test.YtegbkidjehjhmaaDoorM4
namespace Go.Proofs.YtegbkidjehjhmaaDoor
open Go.RowKit Go.Fp Go.Rel
set_option maxRecDepth 20000

theorem mf_look (first : Array Value) (cap : Array Value) (w : World) : (Instr.makeFunc (.func 66) first cap).run Tryd.prog w = .ok (.func (.func 66) first cap) w := rfl

/-- of the calls in the regions that draw their order: what they hand back -/
def SpAn (args : Array Value) (v : Value) : Prop := ∃ y x : Nat, args = #[.float .f64 y, .float .f64 x] ∧ v = .tuple #[.int .i64 (angleP (can y) (can x)).1, .bool (angleP (can y) (can x)).2]
theorem spAn_iff (y x : Nat) (v : Value) : SpAn #[.float .f64 y, .float .f64 x] v ↔ v = .tuple #[.int .i64 (angleP (can y) (can x)).1, .bool (angleP (can y) (can x)).2] := by
  unfold SpAn
  exact ⟨fun ⟨_, _, h, k⟩ => by simp at h; obtain ⟨rfl, rfl⟩ := h; exact k, fun h => ⟨_, _, rfl, h⟩⟩
theorem AnR.call {P : Program} {f : FuncId} {args : Array Value} {p : Int × Bool} {W : World} (h : Calls P f args W (AnR p W)) : Calls P f args W (fun e w' => ∃ u, e = .returned u ∧ u = .tuple #[.int .i64 p.1, .bool p.2] ∧ Ext W w') :=
  h.mono fun _ _ ⟨he, hx⟩ => ⟨_, he, rfl, hx⟩
def SpThird (args : Array Value) (v : Value) : Prop := ∃ a f c : Nat, args = #[globeV a f, .float .f64 c] ∧ isFl (thirdP (can f) (can c)) v
theorem spThird_iff (a f c : Nat) (v : Value) : SpThird #[globeV a f, .float .f64 c] v ↔ isFl (thirdP (can f) (can c)) v := by
  unfold SpThird
  exact ⟨fun ⟨_, _, _, h, k⟩ => by simp at h; obtain ⟨⟨rfl, rfl⟩, rfl⟩ := h; exact k, fun h => ⟨_, _, _, rfl, h⟩⟩
def SpLong (args : Array Value) (v : Value) : Prop := ∃ a f c sa o ss cs cm : Nat, args = #[globeV a f, .float .f64 c, .float .f64 sa, .float .f64 o, .float .f64 ss, .float .f64 cs, .float .f64 cm] ∧ isFl (longerP (can f) (can c) (can sa) (can o) (can ss) (can cs) (can cm)) v
theorem spLong_iff (a f c sa o ss cs cm : Nat) (v : Value) : SpLong #[globeV a f, .float .f64 c, .float .f64 sa, .float .f64 o, .float .f64 ss, .float .f64 cs, .float .f64 cm] v ↔ isFl (longerP (can f) (can c) (can sa) (can o) (can ss) (can cs) (can cm)) v := by
  unfold SpLong
  exact ⟨fun ⟨_, _, _, _, _, _, _, _, h, k⟩ => by simp at h; obtain ⟨⟨rfl, rfl⟩, rfl, rfl, rfl, rfl, rfl, rfl⟩ := h; exact k, fun h => ⟨_, _, _, _, _, _, _, _, rfl, h⟩⟩
def SpNear (args : Array Value) (v : Value) : Prop := ∃ x : Nat, args = #[.float .f64 x] ∧ v = .int .i64 (nearP (can x))
theorem spNear_iff (x : Nat) (v : Value) : SpNear #[.float .f64 x] v ↔ v = .int .i64 (nearP (can x)) := by
  unfold SpNear
  exact ⟨fun ⟨_, h, k⟩ => by simp at h; obtain rfl := h; exact k, fun h => ⟨_, rfl, h⟩⟩
theorem Bks.keepB {w w' : World} {n3 n4 n5 : Nat} (hk : ∀ n t c, n ≠ n3 → n ≠ n4 → n ≠ n5 → Blk w n t c → Blk w' n t c) : ∀ {l : List (Nat × TypeId × Array Value)} (_ : Bks w l) (_ : ∀ x ∈ l, x.1 ≠ n3 ∧ x.1 ≠ n4 ∧ x.1 ≠ n5), Bks w' l
  | [], _, _ => trivial
  | x :: _, h, hl => ⟨hk _ _ _ (hl x List.mem_cons_self).1 (hl x List.mem_cons_self).2.1 (hl x List.mem_cons_self).2.2 h.1, Bks.keepB hk h.2 (fun y hy => hl y (List.mem_cons_of_mem _ hy))⟩

set_option maxHeartbeats 16000000 in
theorem reach_ok {A : Nat → Addr} (v : ReachV) (w : World) (h8 : World8 A w) (h : okG v.a v.f = true) (h1 : v.lat ≤ 90000000000) (h2 : -90000000000 ≤ v.lat) (h3 : btw v.far 0 far2 = true) :
    Calls Tryd.prog 18 #[globeV v.a v.f, placeV v.lon v.lat, .int .i64 v.out, .float .f64 v.far] w
      (if v.north.2 then ReachR A (signP (normP v.lon + normP v.east)) (signP v.north.1) 0 w else ReachR A 0 0 6 w) := by
  have HV : Hid (∀ w, World8 A w → Calls Tryd.prog 39 #[globeV v.a v.f] w (ExR .nilIface w)) := fun w h' => by simpa [h] using valid_c v.a v.f w h'
  have HL : Hid (∀ w, Calls Tryd.prog 40 #[.int .i64 v.lat] w (ExR (.bool true) w)) := fun w => by simpa [h1, h2] using pathLat_c v.lat w
  clear h
  obtain ⟨a, f, lon, lat, out, far⟩ := v
  simp only [] at *
  obtain ⟨hge, hle⟩ := btw_true h3
  have hfar : ((!FloatKind.f64.format.order far 0 == some Ordering.gt) = false ∨ (!FloatKind.f64.format.order far 0 == some Ordering.eq) = false) ∧
      ((!FloatKind.f64.format.order far 4716133919349538816 == some Ordering.lt) = false ∨ (!FloatKind.f64.format.order far 4716133919349538816 == some Ordering.eq) = false) := by
    simpa using And.intro hge hle
  clear h3
  generalize hpost : (if (ReachV.mk a f lon lat out far).north.2 then ReachR A (signP (normP lon + normP (ReachV.mk a f lon lat out far).east)) (signP (ReachV.mk a f lon lat out far).north.1) 0 w else ReachR A 0 0 6 w) = post
  have HPost := Lib.hid hpost
  clear hpost
  go_enter Tryd.func18, Tryd.ntmps18
  have t1 : Hid True := trivial
  have t3 : Hid True := trivial
  have hmf := mf_look
  go_wp2_with (first
    | (go_at_call 39; go_must (refine (HV.out _ (h8.ext (by repeat (first | exact Ext.refl _ | refine Ext.alloc ?_ _)))).mono ?_; rintro e w1 ⟨rfl, hx1⟩; obtain ⟨hb1, hb2, hb3, hw⟩ := ext3 hx1; have hB : Bks w1 [(w.heap.size, 42, #[.float .f64 a, .float .f64 f]), (w.heap.size + 1, 35, #[.int .i64 lon, .int .i64 lat]), (w.heap.size + 1 + 1, 35, #[.int .i64 0, .int .i64 0])] := ⟨hb1, hb2, hb3, trivial⟩; clear hx1 hb1 hb2 hb3; have kc := And.intro hB.1.cell hB.2.1.cell))
    | (go_at_call 40; go_must (refine (HL.out _).mono ?_; rintro e v1 ⟨rfl, hx⟩; clear kc; replace hB := hB.ext (bareN hx rfl rfl rfl rfl); replace hw := hw.trans (bareN hx rfl rfl rfl rfl); clear hx; have kc := And.intro hB.1.cell hB.2.1.cell))
    | (go_at_call 41; go_must (refine (reduced_c _ _ _ _).mono ?_; rintro e v1 ⟨rc, rs, rfl, hrc, hrs, hx⟩; clear kc; replace hB := hB.ext (bareN hx rfl rfl rfl rfl); replace hw := hw.trans (bareN hx rfl rfl rfl rfl); clear hx; have kc := And.intro hB.1.cell hB.2.1.cell))
    | (go_at_call 45; go_must (refine (sin_c _ _).mono ?_; rintro e v1 ⟨rfl, hx⟩; clear kc; replace hB := hB.ext (bareN hx rfl rfl rfl rfl); replace hw := hw.trans (bareN hx rfl rfl rfl rfl); clear hx; have kc := And.intro hB.1.cell hB.2.1.cell))
    | (go_at_call 46; go_must (refine (cos_c _ _).mono ?_; rintro e v1 ⟨rfl, hx⟩; clear kc; replace hB := hB.ext (bareN hx rfl rfl rfl rfl); replace hw := hw.trans (bareN hx rfl rfl rfl rfl); clear hx; have kc := And.intro hB.1.cell hB.2.1.cell))
    | (go_at_call 51; go_must (refine (pathAngle_c _ _ _).mono ?_; rintro e v1 ⟨rfl, hx⟩; clear kc; replace hB := hB.ext (bareN hx rfl rfl rfl rfl); replace hw := hw.trans (bareN hx rfl rfl rfl rfl); clear hx; have kc := And.intro hB.1.cell hB.2.1.cell))
    | (go_at_call 49; go_must (refine (of_c _ _ _ _).mono ?_; rintro e v1 ⟨rp, rq, rfl, hrp, hrq, hx⟩; clear kc; replace hB := hB.ext (bareN hx rfl rfl rfl rfl); replace hw := hw.trans (bareN hx rfl rfl rfl rfl); clear hx; have kc := And.intro hB.2.1.cell hB.2.2.1.cell))
    | (with_reducible refine upon_fl rfl ?_; intro y ny hy)
    | (clear t1; refine wpList_ownF rfl 31 _ _ rfl _ _ _ rfl rfl _ _ (Blk.new _ _ _) (by kernel_rfl) ?_; go_must (intro u bn en sn zn; have f1 := Lib.hid hB.fresh; replace hw := en _ (by repeat (first | exact hw | refine Ext.drewN ?_ _ | refine Ext.alloc ?_ _)) hw.size; replace hB := (hB.keep _ sn).cons bn; clear kc bn en sn zn; have kc := And.intro hB.2.1.cell hB.2.2.1.cell))
    | (refine wpList_own rfl 98 _ _ rfl _ _ rfl rfl _ _ (Blk.new _ _ _) (by kernel_rfl) rfl (by simp [Value.oneCell']) ?_; go_must (intro u bn en sn; have f2 := Lib.hid hB.fresh; replace hw := en _ (by repeat (first | exact hw | refine Ext.drewN ?_ _ | refine Ext.alloc ?_ _)) hw.size; replace hB := (hB.keep _ sn).cons bn; clear kc bn en sn; have kc := And.intro hB.1.cell (And.intro hB.2.2.1.cell hB.2.2.2.1.cell)))
    | (clear t3; refine wpList_ownF rfl 31 _ _ rfl _ _ _ rfl rfl _ _ (Blk.new _ _ _) (by kernel_rfl) ?_; go_must (intro u bn en sn zn; have f3 := Lib.hid hB.fresh; replace hw := en _ (by repeat (first | exact hw | refine Ext.drewN ?_ _ | refine Ext.alloc ?_ _)) hw.size; replace hB := (hB.keep _ sn).cons bn; clear kc bn en sn zn; skip)))
  · exfalso
    rename_i hcond _ _
    rcases hge with hge | hge <;> rcases hle with hle | hle <;> simp [hge, hle] at hcond
  rename_i vA z7 m7 hz7 vB z6 m6 hz6 uA z5 m5 hz5 z4 m4 hz4 z3 m3 hz3 uB z2 m2 hz2 z1 m1 hz1 z0 m0 hz0 KK hKK
  have q1 : w.heap.size + 1 + 1 < vB.heap.size := f1.out _ (List.Mem.tail _ (List.Mem.tail _ (List.Mem.head _)))
  have q2 : vB.heap.size < v1.heap.size := f2.out _ (List.Mem.head _)
  have q3 : v1.heap.size < uB.heap.size := f3.out _ (List.Mem.head _)
  have q4 : uB.heap.size < u.heap.size := hB.fresh _ (List.Mem.head _)
  have hO := hB.1
  have hL := hB.2
  have HLT := f3
  clear f1 f2 f3 hB hfar hge hle
  obtain ⟨CU, hCU⟩ : ∃ x, x = (ReachV.mk a f lon lat out far).cu := ⟨_, rfl⟩
  obtain ⟨SU, hSU⟩ : ∃ x, x = (ReachV.mk a f lon lat out far).su := ⟨_, rfl⟩
  obtain ⟨S1, hS1⟩ : ∃ x, x = (ReachV.mk a f lon lat out far).s1 := ⟨_, rfl⟩
  obtain ⟨SA, hSA⟩ : ∃ x, x = (ReachV.mk a f lon lat out far).sa := ⟨_, rfl⟩
  obtain ⟨CA, hCA⟩ : ∃ x, x = (ReachV.mk a f lon lat out far).ca := ⟨_, rfl⟩
  obtain ⟨Q, hQ⟩ : ∃ x, x = (ReachV.mk a f lon lat out far).q := ⟨_, rfl⟩
  obtain ⟨F1, hF1⟩ : ∃ x, x = (ReachV.mk a f lon lat out far).first := ⟨_, rfl⟩
  have ecu : can rc = CU := by rw [hCU, hrc]; rfl
  have esu : can rs = SU := by rw [hSU, hrs]; rfl
  have es1 : can z6 = S1 := by rw [hS1, hz6]; simp only [fbin, ReachV.s1, radP]; rfl
  have esa : can z5 = SA := by rw [hSA, hz5]; simp only [fbin, ReachV.sa, ReachV.sa1, ← hCU, ← ecu]
  have eca : can z3 = CA := by rw [hCA, hz3]; simp only [fbin, hz4, ReachV.ca, ← hSA, ← esa]
  have eq : can rq = Q := by rw [hQ, hrq]; simp only [ReachV.q, ← hCA, ← eca]
  have ef : can y = F1 := by rw [hF1, hy]; simp only [fbin, hz0, hz1, hz2, hrp, ReachV.first, ReachV.p, ← hCA, ← eca]
  clear hrc hrs hrp hrq hz7 hz6 hz5 hz4 hz3 hz2 hz1 hz0 hy
  obtain ⟨⟨nn, nb⟩, hNN⟩ : ∃ x, x = (ReachV.mk a f lon lat out far).north := ⟨_, rfl⟩
  obtain ⟨LA, hLA⟩ : ∃ x, x = (ReachV.mk a f lon lat out far).ang := ⟨_, rfl⟩
  obtain ⟨EA, hEA⟩ : ∃ x, x = (ReachV.mk a f lon lat out far).east := ⟨_, rfl⟩
  have Hang : Hid (∀ r1 r2, can r1 = fadd (fmul SU (can (cosP (nearP (oIt S1 Q F1 60))))) (fmul (fmul CU (can (sinP (nearP (oIt S1 Q F1 60))))) (can (cosP out))) →
      can r2 = fmul (fsub (can c1) (can f)) (fsqrt (fadd (fmul SA SA) (fmul (fsub (fmul SU (can (sinP (nearP (oIt S1 Q F1 60))))) (fmul (fmul CU (can (cosP (nearP (oIt S1 Q F1 60))))) (can (cosP out)))) (fsub (fmul SU (can (sinP (nearP (oIt S1 Q F1 60))))) (fmul (fmul CU (can (cosP (nearP (oIt S1 Q F1 60))))) (can (cosP out))))))) →
      angleP (can r1) (can r2) = (nn, nb)) := Lib.hid (by intro r1 r2 e1 e2; rw [e1, e2, hNN, hCU, hSU, hS1, hSA, hQ, hF1]; rfl)
  have Hlan : Hid (∀ r1 r2, can r1 = fmul (can (sinP (nearP (oIt S1 Q F1 60)))) (can (sinP out)) → can r2 = fsub (fmul CU (can (cosP (nearP (oIt S1 Q F1 60))))) (fmul (fmul SU (can (sinP (nearP (oIt S1 Q F1 60))))) (can (cosP out))) →
      (angleP (can r1) (can r2)).1 = LA) := Lib.hid (by intro r1 r2 e1 e2; rw [e1, e2, hLA, hCU, hSU, hS1, hQ, hF1]; rfl)
  have Heas : Hid (∀ r1, can r1 = fsub (radP (signP LA)) (longerP (can f) (thirdP (can f) CA) SA (oIt S1 Q F1 60) (can (sinP (nearP (oIt S1 Q F1 60)))) (can (cosP (nearP (oIt S1 Q F1 60)))) (can (cosP (nearP (fadd (fmul (can c2) S1) (oIt S1 Q F1 60)))))) → nearP (can r1) = EA) :=
    Lib.hid (by intro r1 e1; rw [e1, hEA, hLA, hCA, hSA, hS1, hQ, hF1]; rfl)
  have hp := HPost.out
  rw [← hNN, ← hEA] at hp
  clear hCU hSU hS1 hSA hCA hQ hF1 hNN hLA hEA HPost
  have W1 : IntKind.i64.wrap (normP lon + normP EA) = normP lon + normP EA := IntWalk.i64_in _ ⟨by have := normP_lo lon; have := normP_lo EA; omega, by have := normP_hi lon; have := normP_hi EA; omega⟩
  obtain ⟨g3, g4, g5, hx⟩ := ext3 (Ext.refl (((u.alloc (.cells #[.float .f64 0] 31)).alloc (.cells #[.float .f64 0] 31)).alloc (.cells #[.float .f64 0] 31)))
  replace hO := hO.ext hx
  replace hL := hL.ext hx
  replace hw := hw.trans hx
  clear hx
  generalize ((u.alloc (.cells #[.float .f64 0] 31)).alloc (.cells #[.float .f64 0] 31)).alloc (.cells #[.float .f64 0] 31) = W at *
  generalize u.heap.size = nC at *
  generalize uB.heap.size = nO at *
  generalize v1.heap.size = nS at *
  generalize vB.heap.size = n1 at *
  obtain ⟨L5, hL5⟩ : ∃ l, l = [(nS, 98, #[Value.float .f64 rp, Value.float .f64 rq]), (n1, 31, #[Value.float .f64 z6]), (w.heap.size, 42, #[Value.float .f64 a, Value.float .f64 f]),
    (w.heap.size + 1, 35, #[Value.int .i64 lon, Value.int .i64 lat]), (w.heap.size + 1 + 1, 35, #[Value.int .i64 0, Value.int .i64 0])] := ⟨_, rfl⟩
  have Q1 := Lib.hid q1
  have Q2 := Lib.hid q2
  have Q3 := Lib.hid q3
  have Q4 := Lib.hid q4
  clear q1 q2 q3 q4
  go_loopw [92] (fun i wr => ∃ k ro x3 x4 x5 : Nat, k ≤ 60 ∧ i = .int .i64 k ∧ can ro = oIt S1 Q F1 k ∧ Blk wr nC 31 #[.float .f64 x3] ∧ Blk wr (nC + 1) 31 #[.float .f64 x4] ∧ Blk wr (nC + 1 + 1) 31 #[.float .f64 x5] ∧
      Blk wr nO 31 #[.float .f64 ro] ∧ Bks wr L5 ∧ Ext w wr) (fun i _ => 60 - (intOf i).toNat)
  case atStart => exact ⟨0, y, 0, 0, 0, by omega, rfl, by rw [ef]; rfl, g3, g4, g5, hO, by rw [hL5]; exact hL, hw⟩
  case round =>
    clear g3 g4 g5 hO hL hw
    obtain ⟨k, ro, x3, x4, x5, hk, rfl, ero, h3', h4', h5', hO, hL, hw⟩ := hrel
    subst hL5
    have hsz := hw.size
    have q1 := Q1.out
    have q2 := Q2.out
    have q3 := Q3.out
    have q4 := Q4.out
    rcases Nat.lt_or_ge k 60 with hn1 | hn1
    · go_wp2_with (first
        | (go_at_call 66; go_must (refine (look_c n1 nO nC (nC + 1) (nC + 1 + 1) _ ro x3 x4 x5 _ (by omega) (by omega) (by omega) (by omega) (by omega) hL.2.1 hO h3' h4' h5').mono ?_; rintro e v1 ⟨rfl, c3, c4, c5, hk, hx⟩; replace hL := Bks.keepB hk hL (fun x hx => by have := (HLT.out x hx); omega); replace hO := hk _ _ _ (by omega) (by omega) (by omega) hO; replace hw := hx _ hw (by omega) (by omega) (by omega); clear h3' h4' h5' hk hx; have kc := And.intro c3.cell (And.intro c4.cell (And.intro c5.cell (And.intro hL.1.cell hO.cell)))))
        | (go_at_call 50; go_must (refine (off_c _ _ _ _ _ _).mono ?_; rintro e v2 ⟨rf, rfl, hrf, hx⟩; clear kc; replace c3 := c3.ext (bareN hx rfl rfl rfl rfl); replace c4 := c4.ext (bareN hx rfl rfl rfl rfl); replace c5 := c5.ext (bareN hx rfl rfl rfl rfl); replace hO := hO.ext (bareN hx rfl rfl rfl rfl); replace hL := hL.ext (bareN hx rfl rfl rfl rfl); replace hw := hw.trans (bareN hx rfl rfl rfl rfl); clear hx; have kc := And.intro c3.cell (And.intro c4.cell (And.intro c5.cell (And.intro hL.1.cell hO.cell)))))
        | (with_reducible refine upon_fl rfl ?_; intro y' ny' hy')
        | (refine wpList_ownF rfl 31 _ _ rfl _ _ _ rfl rfl _ _ (show Blk _ _ _ _ from hO) (by kernel_rfl) ?_; go_must (intro u2 bn en sn zn; replace c3 := Blk.same (show Blk _ _ _ _ from c3) sn (by omega); replace c4 := Blk.same (show Blk _ _ _ _ from c4) sn (by omega); replace c5 := Blk.same (show Blk _ _ _ _ from c5) sn (by omega); replace hL := Bks.same hL sn (fun x hx => Nat.ne_of_lt (HLT.out x hx)); replace hw := en w (by repeat (first | exact hw | refine Ext.drewN ?_ _)) (by omega); clear kc hO en sn zn)))
      go_roundw
      case rel => exact ⟨k + 1, y', _, _, _, by omega, by simp, by rw [oIt_succ, hy']; simp only [fbin, oStep, *], c3, c4, c5, bn, hL, hw⟩
      case measure => simp [intOf]; omega
    · have hk60 : k = 60 := by omega
      subst hk60
      cases nb
      all_goals
        subst hp
        go_wp2_with (first
          | (go_at_call 66; go_must (refine (look_c n1 nO nC (nC + 1) (nC + 1 + 1) _ ro x3 x4 x5 _ (by omega) (by omega) (by omega) (by omega) (by omega) hL.2.1 hO h3' h4' h5').mono ?_; rintro e v1 ⟨rfl, c3, c4, c5, hk, hx⟩; replace hL := Bks.keepB hk hL (fun x hx => by have := (HLT.out x hx); omega); replace hO := hk _ _ _ (by omega) (by omega) (by omega) hO; replace hw := hx _ hw (by omega) (by omega) (by omega); clear h3' h4' h5' hk hx; have kc := And.intro c3.cell (And.intro c4.cell (And.intro c5.cell (And.intro hL.2.2.1.cell (And.intro hL.2.2.2.1.cell hO.cell))))))
          | (with_reducible refine upon_fl rfl ?_; intro y' ny' hy'))
        refine wp_region_all (fun g args v => (g = 47 ∧ SpOne fsqrt args v) ∨ (g = 48 ∧ SpAn args v)) (by kernel_rfl) (by kernel_rfl) ?_
        clear kc
        repeat (first
          | (refine wpR_op rfl (fun w1 hx K hK => ?_); have kc := And.intro (c3.ext (bareN hx rfl rfl rfl rfl)).cell (And.intro (c4.ext (bareN hx rfl rfl rfl rfl)).cell (And.intro (c5.ext (bareN hx rfl rfl rfl rfl)).cell (And.intro (hL.2.2.1.ext (bareN hx rfl rfl rfl rfl)).cell (And.intro (hL.2.2.2.1.ext (bareN hx rfl rfl rfl rfl)).cell (hO.ext (bareN hx rfl rfl rfl rfl)).cell)))); go_simp; refine hK _ ?_; clear hK K kc hx w1)
          | (refine wpR_op rfl (fun w1 hx K hK => ?_); go_simp; refine rel_fl rfl ?_; intro r hr; refine hK _ ?_; clear hK K hx w1)
          | (refine wpR_op rfl (fun w1 hx K hK => ?_); go_simp; refine rel_call (FlR.call (sqrt_c _ _)) (fun v => ?_) (fun v hv => ?_); (simp [spOne_iff]); obtain ⟨rt, rfl, hrt⟩ := hv; refine hK _ ?_; clear hK K hx w1)
          | (refine wpR_op rfl (fun w1 hx K hK => ?_); go_simp; refine rel_call (AnR.call (angle_c _ _ _)) (fun v => ?_) (fun v hv => ?_); (simp [spAn_iff]); subst hv; rw [Hang.out _ _ (by simp only [*, fbin]) (by simp only [*, fbin])]; refine hK _ ?_; clear hK K hx w1))
        refine wpR_nil ?_
        intro w2 hx _
        replace c3 := c3.ext (bareN hx rfl rfl rfl rfl)
        replace c4 := c4.ext (bareN hx rfl rfl rfl rfl)
        replace c5 := c5.ext (bareN hx rfl rfl rfl rfl)
        replace hO := hO.ext (bareN hx rfl rfl rfl rfl)
        replace hL := hL.ext (bareN hx rfl rfl rfl rfl)
        replace hw := hw.trans (bareN hx rfl rfl rfl rfl)
        clear hx
        have kc := And.intro c3.cell (And.intro c4.cell (And.intro c5.cell (And.intro hL.2.2.1.cell (And.intro hL.2.2.2.1.cell hO.cell))))
      · go_wp2_with fail
        have hl0 := cell_lt (h8.errs.cell 1 (by decide))
        have kg := (h8.ext hw).errs.cell 1 (by decide)
        have hne : ¬ (1 = w.heap.size + 1 + 1) := by omega
        have hne' : ¬ (w.heap.size + 1 + 1 = 1) := by omega
        have hR := hL.2.2.2.2.1
        have d3 := hR.cell
        have f3 := hR.frozen
        have hlt := hR.lt
        clear kc c3 c4 c5 hO hL HLT Hang Hlan Heas
        go_region
        all_goals go_wp2
        all_goals exact bodyPost_ret (v := .tuple #[placeV 0 0, errV (A 1)]) (by simp [results, Tryd.results18, go_sem, d3]) rfl ⟨_, rfl, .none, (by repeat (first | exact hw | refine Ext.drew ?_ | refine Ext.setCell ?_ (by simp; omega) _))⟩
      · go_wp2_with (first
          | (go_at_call 51; go_must (refine (pathAngle_c _ _ _).mono ?_; rintro e v2 ⟨rfl, hx⟩; clear kc; replace c3 := c3.ext (bareN hx rfl rfl rfl rfl); replace c4 := c4.ext (bareN hx rfl rfl rfl rfl); replace c5 := c5.ext (bareN hx rfl rfl rfl rfl); replace hO := hO.ext (bareN hx rfl rfl rfl rfl); replace hL := hL.ext (bareN hx rfl rfl rfl rfl); replace hw := hw.trans (bareN hx rfl rfl rfl rfl); clear hx; have kc := And.intro c3.cell (And.intro c4.cell (And.intro c5.cell (And.intro hL.2.2.1.cell (And.intro hL.2.2.2.1.cell hO.cell)))); rw [Hlan.out _ _ (by simp only [*, fbin]) (by simp only [*, fbin])]))
          | (go_at_call 42; go_must (refine (signed_c _ _).mono ?_; rintro e v2 ⟨rfl, hx⟩; clear kc; replace c3 := c3.ext (bareN hx rfl rfl rfl rfl); replace c4 := c4.ext (bareN hx rfl rfl rfl rfl); replace c5 := c5.ext (bareN hx rfl rfl rfl rfl); replace hO := hO.ext (bareN hx rfl rfl rfl rfl); replace hL := hL.ext (bareN hx rfl rfl rfl rfl); replace hw := hw.trans (bareN hx rfl rfl rfl rfl); clear hx; have kc := And.intro c3.cell (And.intro c4.cell (And.intro c5.cell (And.intro hL.2.2.1.cell (And.intro hL.2.2.2.1.cell hO.cell))))))
          | (with_reducible refine upon_fl rfl ?_; intro y' ny' hy'))
        refine wp_region_all (fun g args v => (g = 53 ∧ SpThird args v) ∨ (g = 52 ∧ SpLong args v) ∨ (g = 44 ∧ SpNear args v)) (by kernel_rfl) (by kernel_rfl) ?_
        clear kc
        repeat (first
          | (refine wpR_op rfl (fun w1 hx K hK => ?_); have kc := And.intro (c3.ext (bareN hx rfl rfl rfl rfl)).cell (And.intro (c4.ext (bareN hx rfl rfl rfl rfl)).cell (And.intro (c5.ext (bareN hx rfl rfl rfl rfl)).cell (And.intro (hL.2.2.1.ext (bareN hx rfl rfl rfl rfl)).cell (And.intro (hL.2.2.2.1.ext (bareN hx rfl rfl rfl rfl)).cell (hO.ext (bareN hx rfl rfl rfl rfl)).cell)))); go_simp; refine hK _ ?_; clear hK K kc hx w1)
          | (refine wpR_op rfl (fun w1 hx K hK => ?_); go_simp; refine rel_fl rfl ?_; intro r hr; refine hK _ ?_; clear hK K hx w1)
          | (refine wpR_op rfl (fun w1 hx K hK => ?_); go_simp; refine rel_call (FlR.call (third_c _ _ _ _)) (fun v => ?_) (fun v hv => ?_); (simp [spThird_iff]); obtain ⟨rt, rfl, hrt⟩ := hv; refine hK _ ?_; clear hK K hx w1)
          | (refine wpR_op rfl (fun w1 hx K hK => ?_); go_simp; refine rel_call (FlR.call (longer_c _ _ _ _ _ _ _ _ _)) (fun v => ?_) (fun v hv => ?_); (simp [spLong_iff]); obtain ⟨rt, rfl, hrt⟩ := hv; refine hK _ ?_; clear hK K hx w1)
          | (refine wpR_op rfl (fun w1 hx K hK => ?_); go_simp; refine rel_call (ExR.call (nearest_c _ _)) (fun v => ?_) (fun v hv => ?_); (simp [spNear_iff]); subst hv; rw [Heas.out _ (by simp only [*, fbin, radP])]; refine hK _ ?_; clear hK K hx w1))
        refine wpR_nil ?_
        intro w2 hx _
        replace c3 := c3.ext (bareN hx rfl rfl rfl rfl)
        replace c4 := c4.ext (bareN hx rfl rfl rfl rfl)
        replace c5 := c5.ext (bareN hx rfl rfl rfl rfl)
        replace hO := hO.ext (bareN hx rfl rfl rfl rfl)
        replace hL := hL.ext (bareN hx rfl rfl rfl rfl)
        replace hw := hw.trans (bareN hx rfl rfl rfl rfl)
        clear hx
        have kc := And.intro c3.cell (And.intro c4.cell (And.intro c5.cell (And.intro hL.2.2.1.cell (And.intro hL.2.2.2.1.cell hO.cell))))
        go_wp2_with (first
          | (go_at_call 42; go_must (refine (signed_c _ _).mono ?_; rintro e v2 ⟨rfl, hx⟩; clear kc; replace c3 := c3.ext (bareN hx rfl rfl rfl rfl); replace c4 := c4.ext (bareN hx rfl rfl rfl rfl); replace c5 := c5.ext (bareN hx rfl rfl rfl rfl); replace hO := hO.ext (bareN hx rfl rfl rfl rfl); replace hL := hL.ext (bareN hx rfl rfl rfl rfl); replace hw := hw.trans (bareN hx rfl rfl rfl rfl); clear hx; have kc := And.intro c3.cell (And.intro c4.cell (And.intro c5.cell (And.intro hL.2.2.1.cell (And.intro hL.2.2.2.1.cell hO.cell))))))
          | (go_at_call 43; go_must (refine (norm_c _ _).mono ?_; rintro e v2 ⟨rfl, rfl⟩))
          | (refine wpList_own rfl 35 _ _ rfl _ _ rfl rfl _ _ (show Blk _ _ _ _ from hL.2.2.2.2.1) (by kernel_rfl) rfl (by simp [Value.oneCell']) ?_; go_must (intro w9 hb4 hk9 _; have hw9 : Ext w w9 := hk9 w (by repeat (first | exact hw | refine Ext.drewN ?_ _)) (by omega); have d4 := hb4.cell; clear kc hL hk9)))
        exact bodyPost_ret (v := .tuple #[placeV _ _, .nilIface]) (by simp [results, Tryd.results18, go_sem, d4]) rfl ⟨_, rfl, .nil, hw9⟩
end Go.Proofs.YtegbkidjehjhmaaDoor
