/- Walk: the logarithm of the reference. -/
import Derived.Test.YtcppgbhjbmfldaaGreatDoorZL
import Derived.Deep.RegionHeld3
import Derived.Deep.DeepCutAuto
namespace Go.Proofs.YtcppgbhjbmfldaaGreatDoor
open Go.RowKit Go.Fp Go.Rel Ieee
set_option maxRecDepth 20000

theorem sum_opp (s : Bool) (m : Nat) (i : Int) : (Datum.number s m i).sum (Datum.number s m i).opposite = some (.number false 0 i) := by
  cases s <;> simp [Datum.sum, Datum.opposite, signed] <;> omega
theorem finP_num {x m : Nat} {i : Int} {s : Bool} (h : D.read x = .number s m i) : finP x = true := by
  have e : D.sub x x = some 0 := by
    unfold Format.sub
    rw [h, sum_opp]
    show some (D.nearest false 0 i) = some 0
    unfold Format.nearest
    simp [Format.word]
  have e2 : fsub x x = 0 := by unfold fsub; rw [e]; rfl
  unfold finP
  rw [e2]
  decide +kernel
theorem finP_inf {x : Nat} {s : Bool} (h : D.read x = .infinity s) : finP x = false := by
  have e : D.sub x x = none := by
    unfold Format.sub
    rw [h]
    cases s <;> rfl
  have e2 : fsub x x = QN := by unfold fsub; rw [e]; rfl
  unfold finP
  rw [e2]
  decide +kernel

def cN (k : Nat) : Nat := floatOfInt .f64 (21 - 2 * (k : Int))
theorem cN_pos : ∀ k, k < 11 → D.order (cN k) 0 = some .gt := by decide +kernel
theorem cN_end : D.order (cN 11) 0 = some .lt := by decide +kernel
theorem cN_next : ∀ k, k < 11 → fsub (can (cN k)) (can two) = cN (k + 1) ∧ isNan (cN (k + 1)) = false := by decide +kernel
def cM : Value → Nat
  | .float _ x => if x = cN 0 then 12 else if x = cN 1 then 11 else if x = cN 2 then 10 else if x = cN 3 then 9 else if x = cN 4 then 8 else if x = cN 5 then 7 else if x = cN 6 then 6 else if x = cN 7 then 5 else if x = cN 8 then 4 else if x = cN 9 then 3 else if x = cN 10 then 2 else 1
  | _ => 0
theorem cM_less : ∀ k, k < 11 → cM (.float .f64 (cN (k + 1))) < cM (.float .f64 (cN k)) := by decide +kernel
theorem lnS_next (z k : Nat) : lnS z (k + 1) = fadd (fdiv (can one1) (can (cN k))) (fmul z (lnS z k)) := rfl
theorem can_num' {x c : Nat} (h : can x = c) (hc : isNan c = false) : x = c := by
  cases hn : isNan x with
  | false => rw [can_of_not hn] at h; exact h
  | true => rw [can_of_nan hn] at h; rw [← h, isNan_QN] at hc; cases hc

/-- at or above root two; below root one half -/
def hiB (m : Nat) (j : Int) : Prop := CR * 2 ^ 1022 ≤ m * 2 ^ (j + 1074).toNat
def loB (m : Nat) (j : Int) : Prop := m * 2 ^ (j + 1074).toNat < CR * 2 ^ 1021
theorem hi_lo {m : Nat} {j : Int} (h : hiB m j) (hlt : m < 2 ^ 53) : -53 ≤ j := lo_of_ge h hlt
theorem lo_hi {m : Nat} {j : Int} (h : loB m j) (h0 : m ≠ 0) : j < 0 := hi_of_lt h h0
theorem up_no {m : Nat} {j : Int} (h : hiB m j) (hj : -1073 ≤ j) : ¬ loB m (j - 1) := Nat.not_lt.2 (up_step h hj)
theorem down_no {m : Nat} {j : Int} (h : loB m j) (hj : -1074 ≤ j) : ¬ hiB m (j + 1) := Nat.not_le.2 (down_step h hj)
theorem mid_of {m : Nat} {j : Int} (h0 : m ≠ 0) (hlt : m < 2 ^ 53) (hj : -1074 ≤ j) (h1 : ¬ hiB m j) (h2 : ¬ loB m j) : j = midJ m := at_mid h0 hlt hj (Nat.not_le.1 h1) (Nat.not_lt.1 h2)
theorem up_ask {x m : Nat} {j : Int} (h : D.read x = D.read (W m j)) (hm : m ≠ 0) (hm2 : m < 2 ^ 53) (h1 : -1074 ≤ j) (h2 : j ≤ 971) :
    (hiB m j ∧ (FloatKind.f64.format.order x 4609047870845172685 = some .gt ∨ FloatKind.f64.format.order x 4609047870845172685 = some .eq)) ∨
    (¬ hiB m j ∧ (FloatKind.f64.format.order x 4609047870845172685 == some .gt) = false ∧ (FloatKind.f64.format.order x 4609047870845172685 == some .eq) = false) := by
  have g := ge_root2 h hm hm2 h1 h2
  by_cases hc : hiB m j
  · refine .inl ⟨hc, ?_⟩
    have := g.2 hc
    rw [Bool.or_eq_true, beq_iff_eq, beq_iff_eq] at this
    exact this
  · refine .inr ⟨hc, ?_⟩
    have := mt g.1 hc
    rw [Bool.not_eq_true, Bool.or_eq_false_iff] at this
    exact this
theorem down_ask {x m : Nat} {j : Int} (h : D.read x = D.read (W m j)) (hm : m ≠ 0) (hm2 : m < 2 ^ 53) (h1 : -1074 ≤ j) (h2 : j ≤ 971) :
    (loB m j ∧ FloatKind.f64.format.order x 4604544271217802189 = some .lt) ∨ (¬ loB m j ∧ (FloatKind.f64.format.order x 4604544271217802189 == some .lt) = false) := by
  have g := lt_root h hm hm2 h1 h2
  by_cases hc : loB m j
  · exact .inl ⟨hc, by have := g.2 hc; rwa [beq_iff_eq] at this⟩
  · exact .inr ⟨hc, by have := mt g.1 hc; rwa [Bool.not_eq_true] at this⟩
theorem half_to {r y m : Nat} {j : Int} (h : D.read r = D.read (W m j)) (h0 : m ≠ 0) (hlt : m < 2 ^ 53) (hh : hiB m j) (hj : j ≤ 971) (hy : can y = fdiv (can r) (can two)) : D.read y = D.read (W m (j - 1)) ∧ -1074 ≤ j - 1 := by
  have h1 := hi_lo hh hlt
  have hn : isNan r = false := by
    obtain ⟨m', p, hr, _⟩ := W_read h0 hlt (show -1074 ≤ j by omega) hj
    rw [nan_rd h]; unfold isNan; rw [hr]; rfl
  have hn2 : isNan (W m (j - 1)) = false := by
    obtain ⟨m', p, hr, _⟩ := W_read h0 hlt (show -1074 ≤ j - 1 by omega) (show j - 1 ≤ 971 by omega)
    unfold isNan; rw [hr]; rfl
  have e : y = W m (j - 1) := by
    refine can_num' ?_ hn2
    rw [hy, can_of_not hn, can_of_not (show isNan two = false by decide +kernel), step_half h h0 hlt (by omega) (by omega)]
  exact ⟨by rw [e], by omega⟩
theorem double_to {r y m : Nat} {j : Int} (h : D.read r = D.read (W m j)) (h0 : m ≠ 0) (hlt : m < 2 ^ 53) (hh : loB m j) (hj : -1074 ≤ j) (hy : can y = fmul (can r) (can two)) : D.read y = D.read (W m (j + 1)) ∧ j + 1 ≤ 971 := by
  have h1 := lo_hi hh h0
  have hn : isNan r = false := by
    obtain ⟨m', p, hr, _⟩ := W_read h0 hlt hj (show j ≤ 971 by omega)
    rw [nan_rd h]; unfold isNan; rw [hr]; rfl
  have hn2 : isNan (W m (j + 1)) = false := by
    obtain ⟨m', p, hr, _⟩ := W_read h0 hlt (show -1074 ≤ j + 1 by omega) (show j + 1 ≤ 971 by omega)
    unfold isNan; rw [hr]; rfl
  have e : y = W m (j + 1) := by
    refine can_num' ?_ hn2
    rw [hy, can_of_not hn, can_of_not (show isNan two = false by decide +kernel), step_double h h0 hlt (by omega) (by omega)]
  exact ⟨by rw [e], by omega⟩

set_option maxHeartbeats 16000000 in
theorem lnOf_main (x m : Nat) (i : Int) (w : World) (h : D.read x = .number false m i) (h0 : m ≠ 0) : Calls Tryz.prog 75 #[.float .f64 x] w (FlR (lnQ (W m (midJ m)) (i - midJ m)) w) := by
  obtain ⟨hlt, hi1, hi2⟩ := read_fields h
  have hxn : isNan x = false := by unfold isNan; rw [h]; rfl
  have e0 : FloatKind.f64.format.order x x = some .eq := order_self hxn
  have e1 : FloatKind.f64.format.order x 0 = some .gt := order_zero h h0
  have HI := Lib.hid (finR_c x)
  rw [can_of_not hxn, finP_num h] at HI
  have hst := read_W h h0
  clear hxn
  go_enter Tryz.func75, Tryz.ntmps75
  go_wp2_with (first
    | (go_at_call 97; go_must (refine (HI.out _).mono ?_; rintro e w1 ⟨rfl, hx⟩; have hw : Ext w w1 := hx)))
  have hw0 : Ext w w1 := hw
  have HL := Lib.hid hlt
  have HI1 := Lib.hid hi1
  have HI2 := Lib.hid hi2
  clear hw h hlt hi1 hi2 e0 e1
  go_loopw [0, 4] (fun xv kv wr => ∃ (r : Nat) (j : Int), j ≤ i ∧ -1074 ≤ j ∧ (j = i ∨ ¬ loB m j) ∧ xv = .float .f64 r ∧ kv = .int .i64 (i - j) ∧ D.read r = D.read (W m j) ∧ Ext w wr) (fun _ kv _ => (2200 - intOf kv).toNat)
  case atStart => exact ⟨x, i, by omega, HI1.out, .inl rfl, rfl, by simp, hst, hw0⟩
  case round =>
    clear hw0
    obtain ⟨r, j, hj, hj1, hlo, rfl, rfl, hrd, hw⟩ := hrel
    have hi2 := HI2.out
    have hi1 := HI1.out
    have hj2 : j ≤ 971 := by omega
    have HG := Lib.hid (And.intro hj (And.intro hj1 hj2))
    have RD := Lib.hid hrd
    have LO := Lib.hid hlo
    obtain ⟨k, hk⟩ : ∃ k, k = i - j := ⟨_, rfl⟩
    have HK := Lib.hid hk
    have b1 : -1 < k + 1 := by omega
    have b2 : k < 2100 := by omega
    rcases up_ask hrd h0 HL.out hj1 hj2 with ⟨hc, ho⟩ | ⟨hc, ho1, ho2⟩
    · have HC := Lib.hid hc
      rw [← hk]
      clear hrd hc hj hj1 hk hj2 hlo hi1 hi2
      rcases ho with ho | ho
      all_goals
        go_wp2_with (first | (with_reducible refine upon_fl rfl ?_; intro y ny hy))
        go_roundw
        case rel =>
          obtain ⟨q1, q2⟩ := half_to RD.out h0 HL.out HC.out HG.out.2.2 hy
          refine ⟨y, j - 1, ?_, q2, .inr (up_no HC.out ?_), rfl, ?_, q1, ?_⟩
          · have := HG.out.1; omega
          · have := hi_lo HC.out HL.out; omega
          · rw [HK.out]; congr 1; omega
          · repeat (first | exact hw | refine Ext.drewN ?_ _)
        case measure => simp [intOf]; omega
    · have HC := Lib.hid hc
      have hi3 : j = i ∨ j ≤ i := .inr hj
      have b3 : -2200 ≤ k := by omega
      rw [← hk]
      clear hrd hc hj hj1 hk hj2 hlo hi1 hi2 hi3 b1 b3
      go_wp2_with fail
      go_loopw [0, 4] (fun xv kv wr => ∃ (r : Nat) (j : Int), -1074 ≤ j ∧ j ≤ 971 ∧ ¬ hiB m j ∧ xv = .float .f64 r ∧ kv = .int .i64 (i - j) ∧ D.read r = D.read (W m j) ∧ Ext w wr) (fun _ kv _ => (2200 + intOf kv).toNat)
      case atStart => exact ⟨r, j, HG.out.2.1, HG.out.2.2, HC.out, rfl, by rw [HK.out], RD.out, hw⟩
      case round =>
        clear hw ho1 ho2 b2 LO RD HG HC HK
        obtain ⟨r, j, hj1, hj2, hhi, rfl, rfl, hrd, hw⟩ := hrel
        have hi2 := HI2.out
        have hi1 := HI1.out
        have HG := Lib.hid (And.intro hj1 hj2)
        have RD := Lib.hid hrd
        have HH := Lib.hid hhi
        obtain ⟨k, hk⟩ : ∃ k, k = i - j := ⟨_, rfl⟩
        have HK := Lib.hid hk
        have b1 : -2100 < k := by omega
        have b2 : k < 2100 := by omega
        rcases down_ask hrd h0 HL.out hj1 hj2 with ⟨hc, ho⟩ | ⟨hc, ho⟩
        · have HC := Lib.hid hc
          rw [← hk]
          clear hrd hc hj1 hk hj2 hhi hi1 hi2
          go_wp2_with (first | (with_reducible refine upon_fl rfl ?_; intro y ny hy))
          go_roundw
          case rel =>
            obtain ⟨q1, q2⟩ := double_to RD.out h0 HL.out HC.out HG.out.1 hy
            refine ⟨y, j + 1, ?_, q2, down_no HC.out HG.out.1, rfl, ?_, q1, ?_⟩
            · have := HG.out.1; omega
            · rw [HK.out]; congr 1; omega
            · repeat (first | exact hw | refine Ext.drewN ?_ _)
          case measure => simp [intOf]; omega
        · have hM : j = midJ m := mid_of h0 HL.out hj1 hhi hc
          have hQ : ∀ k, lnQ (W m (midJ m)) k = lnQ (can r) k := by
            intro k
            have hn : isNan r = false := by
              obtain ⟨m', p, hr, _⟩ := W_read h0 HL.out hj1 hj2
              rw [nan_rd hrd]; unfold isNan; rw [hr]; rfl
            rw [can_of_not hn, ← hM]
            exact (lnQ_read k hrd).symm
          have HQ := Lib.hid hQ
          have HZ : Hid (lnQ (W m (midJ m)) (i - midJ m) = lnQ (can r) k) := Lib.hid (by rw [hQ, ← hM, ← hk])
          rw [HQ.out, ← hM, ← hk]
          clear hrd hc hj1 hk hj2 hhi hi1 hi2 hM hQ HH RD HG b1 b2
          go_wp2_with (first | (with_reducible refine upon_fl rfl ?_; intro y ny hy))
          rename_i q1 m1 g1 q2 m2 g2 q3 m3 g3 KK hKK
          have HQ4 := Lib.hid (And.intro g1 (And.intro g2 (And.intro g3 hy)))
          clear g1 g2 g3 hy
          go_loopw [7, 8] (fun pv nv wr => ∃ (p k : Nat), k ≤ 11 ∧ pv = .float .f64 p ∧ nv = .float .f64 (cN k) ∧ can p = lnS (can y) k ∧ Ext w wr) (fun _ nv _ => cM nv)
          case atStart => exact ⟨_, 0, by omega, rfl, rfl, rfl, by repeat (first | exact hw | refine Ext.drewN ?_ _)⟩
          case round =>
            clear hw
            obtain ⟨p, n, hn, rfl, rfl, hp, hw⟩ := hrel
            have HP := Lib.hid hp
            clear hp
            by_cases hlt : n < 11
            · have o1 : FloatKind.f64.format.order (cN n) 0 = some .gt := cN_pos n hlt
              have HC := Lib.hid (cN_next n hlt)
              have HL := Lib.hid (cM_less n hlt)
              have HN := Lib.hid hlt
              clear hlt
              generalize hcn : cN n = c at *
              go_wp2_with (first | (with_reducible refine upon_fl rfl ?_; intro u nu hu))
              rename_i t1 k1 d1 t2 k2 d2 t3 k3 d3
              go_roundw
              case rel =>
                have e1 : u = cN (n + 1) := can_num' (hu.trans HC.out.1) HC.out.2
                have e2 : can t3 = lnS (can y) (n + 1) := by
                  rw [lnS_next, hcn, ← HP.out]
                  simp only [*, fbin]
                have hw2 : Ext w _ := hw
                have h12 : n + 1 ≤ 11 := HN.out
                exact ⟨t3, n + 1, h12, rfl, by rw [e1], e2, by repeat (first | exact hw | refine Ext.drewN ?_ _)⟩
              case measure =>
                have e1 : u = cN (n + 1) := can_num' (hu.trans HC.out.1) HC.out.2
                subst e1
                have := HL.out
                exact this
            · obtain rfl : n = 11 := by omega
              have o1 : FloatKind.f64.format.order (cN 11) 0 = some .lt := cN_end
              generalize hcn : cN 11 = c at *
              go_wp2_with (first | (with_reducible refine upon_fl rfl ?_; intro u nu hu))
              go_ret
              refine ⟨_, rfl, ?_, by repeat (first | exact hw | refine Ext.drewN ?_ _)⟩
              obtain ⟨g1, g2, g3, g4⟩ := HQ4.out
              have hP := HP.out
              rw [HZ.out]
              simp only [lnQ, fbin] at *
              simp only [*]

set_option maxHeartbeats 4000000 in
theorem lnOf_c (x : Nat) (w : World) : Calls Tryz.prog 75 #[.float .f64 x] w (FlR (can (lnP x)) w) := by
  cases hn : isNan x with
  | true =>
    have hE : lnP x = QN := by unfold lnP; exact if_pos (.inl hn)
    rw [hE]
    have e0 : FloatKind.f64.format.order x x = none := order_l _ _ hn
    clear hn hE
    go_enter Tryz.func75, Tryz.ntmps75
    go_wp2_with (first | (go_at_call 98; go_must (refine (nan_c _).mono ?_; rintro e w1 ⟨rfl, rfl⟩)))
    go_ret
    exact ⟨_, rfl, rfl, Ext.refl _⟩
  | false =>
    have e0 : FloatKind.f64.format.order x x = some .eq := order_self hn
    by_cases hl : D.order x 0 = some .lt
    · have hE : lnP x = QN := by unfold lnP; exact if_pos (.inr hl)
      rw [hE]
      have e1 : FloatKind.f64.format.order x 0 = some .lt := hl
      clear hn hE hl
      go_enter Tryz.func75, Tryz.ntmps75
      go_wp2_with (first | (go_at_call 98; go_must (refine (nan_c _).mono ?_; rintro e w1 ⟨rfl, rfl⟩)))
      go_ret
      exact ⟨_, rfl, rfl, Ext.refl _⟩
    · have hno : ¬ (isNan x = true ∨ D.order x 0 = some .lt) := by
        intro h; rcases h with h | h
        · rw [hn] at h; cases h
        · exact hl h
      by_cases he : D.order x 0 = some .eq
      · have hE : lnP x = 18442240474082181120 := by unfold lnP; rw [if_neg hno, if_pos he]
        rw [hE]
        have e1 : FloatKind.f64.format.order x 0 = some .eq := he
        clear hn hE hl he hno
        go_enter Tryz.func75, Tryz.ntmps75
        go_wp2_with (first | (go_at_call 68; go_must (refine (infm_c _).mono ?_; rintro e w1 ⟨rfl, rfl⟩)))
        go_ret
        exact ⟨_, rfl, rfl, Ext.refl _⟩
      · rcases pos_cases hn hl he with hi | ⟨m, i, hr, h0⟩
        · have hE : lnP x = x := by unfold lnP; rw [if_neg hno, if_neg he, hi]
          rw [hE]
          have hz : D.read 0 = .number false 0 (-1074) := by decide +kernel
          have e1 : FloatKind.f64.format.order x 0 = some .gt := by
            show D.order x 0 = some .gt
            unfold Format.order; rw [hi, hz]; rfl
          have HI := Lib.hid (finR_c x)
          rw [can_of_not hn, finP_inf hi] at HI
          clear hn hE hl he hno hi hz
          go_enter Tryz.func75, Tryz.ntmps75
          go_wp2_with (first | (go_at_call 97; go_must (refine (HI.out _).mono ?_; rintro e w1 ⟨rfl, hx⟩)))
          go_ret
          exact ⟨_, rfl, rfl, hx⟩
        · have hE : lnP x = lnQ (W m (midJ m)) (i - midJ m) := by unfold lnP; rw [if_neg hno, if_neg he, hr]
          rw [hE, show can (lnQ (W m (midJ m)) (i - midJ m)) = lnQ (W m (midJ m)) (i - midJ m) from can_fadd _ _]
          exact lnOf_main x m i w hr h0
end Go.Proofs.YtcppgbhjbmfldaaGreatDoor

/- Walks: the isometric latitude of the reference. -/
namespace Go.Proofs.YtcppgbhjbmfldaaGreatDoor
open Go.RowKit Go.Fp Go.Rel
set_option maxRecDepth 20000

set_option maxHeartbeats 4000000 in
theorem tanhBack_c (x : Nat) (w : World) : Calls Tryz.prog 72 #[.float .f64 x] w (FlR (lnR (can x)) w) := by
  unfold lnR
  go_enter Tryz.func72, Tryz.ntmps72
  go_wp2_with (first
    | (go_at_call 75; go_must (refine (lnOf_c _ _).mono ?_; rintro e w1 ⟨l, rfl, hl, hx⟩; have hw : Ext w w1 := bareN hx rfl rfl rfl rfl; clear hx))
    | (with_reducible refine upon_fl rfl ?_; intro r n hr))
  go_ret
  refine ⟨_, rfl, ?_, by repeat (first | exact hw | refine Ext.drewN ?_ _)⟩
  rw [← lnP_can] at hl
  simp only [*, fbin]

def SpGlI (g : Nat → Nat → Int → Nat) (args : Array Value) (v : Value) : Prop := ∃ (a f : Nat) (l : Int), args = #[globeV a f, .int .i64 l] ∧ isFl (g a f l) v
theorem spGlI_iff (g : Nat → Nat → Int → Nat) (a f : Nat) (l : Int) (v : Value) : SpGlI g #[.agg #[.float .f64 a, .float .f64 f], .int .i64 l] v ↔ isFl (g a f l) v := by
  unfold SpGlI
  exact ⟨fun ⟨_, _, _, h, k⟩ => by simp at h; obtain ⟨⟨rfl, rfl⟩, rfl⟩ := h; exact k, fun h => ⟨_, _, _, rfl, h⟩⟩

set_option maxHeartbeats 4000000 in
theorem isoOf_c (a f : Nat) (lat : Int) (w : World) : Calls Tryz.prog 40 #[globeV a f, .int .i64 lat] w (FlR (isoP f lat) w) := by
  unfold isoP
  go_enter Tryz.func40, Tryz.ntmps40
  go_wp2_with (first
    | (go_at_call 30; refine (sincos_c _ _).mono ?_; rintro e w' ⟨rfl, rfl⟩)
    | (go_at_call 70; go_must (refine (squareOf_c a f _).mono ?_; rintro e w2 ⟨r2, rfl, hr2, hx⟩; obtain ⟨hb1, hw⟩ := ext1 hx; clear hx))
    | (go_at_call 41; go_must (refine (sqrt_c _ _).mono ?_; rintro e w3 ⟨r3, rfl, hr3, hx⟩; replace hw := hw.trans (bareN hx rfl rfl rfl rfl); clear hx))
    | (go_at_call 72; go_must (refine (tanhBack_c _ _).mono ?_; rintro e w4 ⟨r4, rfl, hr4, hx⟩; replace hw := hw.trans (bareN hx rfl rfl rfl rfl); clear hx))
    | (go_at_call 71; go_must (refine (less_c _ _ _ _).mono ?_; rintro e w5 ⟨r5, rfl, hr5, hx⟩; replace hw := hw.trans (bareN hx rfl rfl rfl rfl); clear hx))
    | (with_reducible refine upon_fl rfl ?_; intro r n hr))
  go_ret
  refine ⟨_, rfl, ?_, by repeat (first | exact hw | refine Ext.drewN ?_ _)⟩
  simp only [*, fbin]
end Go.Proofs.YtcppgbhjbmfldaaGreatDoor

/- Walks: which papers are valid, and which places on them. -/
namespace Go.Proofs.YtcppgbhjbmfldaaGreatDoor
open Go.RowKit Go.Fp Go.Rel
set_option maxRecDepth 20000

abbrev sMer : ByteArray := { data := #[109, 101, 114, 99, 97, 116, 111, 114] }
abbrev sEqu : ByteArray := { data := #[101, 113, 117, 97, 108] }
abbrev sPol : ByteArray := { data := #[112, 111, 108, 97, 114] }
/-- the kinds of paper -/
inductive KindIs : ByteArray → Nat → Prop
  | mer : KindIs sMer 0
  | equ : KindIs sEqu 1
  | pol : KindIs sPol 2
  | not {s : ByteArray} (h1 : (s.toList == [109, 101, 114, 99, 97, 116, 111, 114]) = false) (h2 : (s.toList == [101, 113, 117, 97, 108]) = false) (h3 : (s.toList == [112, 111, 108, 97, 114]) = false) : KindIs s 3
theorem of_list' {s t : ByteArray} (h : (s.toList == t.toList) = true) : s = t := by
  have h' := eq_of_beq h
  rw [ByteArray.toList_eq, ByteArray.toList_eq] at h'
  obtain ⟨⟨x⟩⟩ := s
  obtain ⟨⟨y⟩⟩ := t
  simpa using h'
theorem kind_some (s : ByteArray) : ∃ n, KindIs s n := by
  cases h1 : (s.toList == [109, 101, 114, 99, 97, 116, 111, 114])
  case true => obtain rfl := of_list' (s := s) (t := sMer) (by rw [ByteArray.toList_eq, ByteArray.toList_eq] at *; exact h1); exact ⟨_, .mer⟩
  cases h2 : (s.toList == [101, 113, 117, 97, 108])
  case true => obtain rfl := of_list' (s := s) (t := sEqu) (by rw [ByteArray.toList_eq, ByteArray.toList_eq] at *; exact h2); exact ⟨_, .equ⟩
  cases h3 : (s.toList == [112, 111, 108, 97, 114])
  case true => obtain rfl := of_list' (s := s) (t := sPol) (by rw [ByteArray.toList_eq, ByteArray.toList_eq] at *; exact h3); exact ⟨_, .pol⟩
  exact ⟨_, .not h1 h2 h3⟩
abbrev paperV (a f : Nat) (s : ByteArray) (mid : Int) (sc : Nat) : Value := .agg #[.float .f64 a, .float .f64 f, .string s, .int .i64 mid, .float .f64 sc]
abbrev placeW (lon lat : Int) : Value := .agg #[.int .i64 lon, .int .i64 lat]
/-- the error's number of a paper: g, whether its globe is one; n, its kind -/
def papP (g : Bool) (n : Nat) (sc : Nat) : Int := if g = true then if n = 3 then 5 else if btw sc 4591870180066957722 4621819117588971520 = true then 0 else 3 else 3

/-- the error's number of a place on a paper -/
def chkP (e : Int) (n : Nat) (lat : Int) : Int := if 0 < e then e else if 89000000000 < lat ∨ lat < -89000000000 then 4 else if n = 2 ∧ lat < 0 then 4 else 0
theorem papP_cases (g : Bool) (n sc : Nat) : papP g n sc = 0 ∧ n ≠ 3 ∨ papP g n sc = 3 ∨ papP g n sc = 5 := by
  unfold papP
  split
  · split
    · simp
    · split <;> simp [*]
  · simp

end Go.Proofs.YtcppgbhjbmfldaaGreatDoor

/- Walks: how far a latitude is from the pole, and how far up it is, on paper: package flat's and the reference's. -/
namespace Go.Proofs.YtcppgbhjbmfldaaGreatDoor
open Go.RowKit Go.Fp Go.Rel
set_option maxRecDepth 20000

abbrev kOne : Nat := 4607182418800017408
abbrev kTwo : Nat := 4611686018427387904
def poleP (f : Nat) : Nat := expP (fdiv (fadd (fmul (fadd (can kOne) (fsqrt (eccP f))) (can (lnP (fadd (can kOne) (fsqrt (eccP f)))))) (fmul (fsub (can kOne) (fsqrt (eccP f))) (can (lnP (fsub (can kOne) (fsqrt (eccP f))))))) (can kTwo))
def downP (a f sc : Nat) (lat : Int) : Nat := fdiv (fmul (fmul (can kTwo) (fmul (can a) (can sc))) (expP (negC (isoP f lat)))) (poleP f)
def upQ (f : Nat) (lat : Int) : Nat := if D.order (fsqrt (eccP f)) 0 = some .eq then fmul (can kTwo) (can (sinP lat)) else
  fmul (fsub (can kOne) (eccP f)) (fadd (fdiv (can (sinP lat)) (fsub (can kOne) (fmul (fmul (eccP f) (can (sinP lat))) (can (sinP lat))))) (fdiv (lnR (fmul (fsqrt (eccP f)) (can (sinP lat)))) (fmul (can kTwo) (fsqrt (eccP f)))))
def upP (a f sc : Nat) (lat : Int) : Nat := fdiv (fmul (fdiv (can a) (can sc)) (upQ f lat)) (can kTwo)

def SpPap (g : Nat → Nat → Nat → Nat) (args : Array Value) (v : Value) : Prop := ∃ (a f : Nat) (s : ByteArray) (mid : Int) (sc : Nat), args = #[paperV a f s mid sc] ∧ isFl (g a f sc) v
theorem spPap_iff (g : Nat → Nat → Nat → Nat) (a f : Nat) (s : ByteArray) (mid : Int) (sc : Nat) (v : Value) : SpPap g #[paperV a f s mid sc] v ↔ isFl (g a f sc) v := by
  unfold SpPap
  exact ⟨fun ⟨_, _, _, _, _, h, k⟩ => by simp at h; obtain ⟨rfl, rfl, _, _, rfl⟩ := h; exact k, fun h => ⟨_, _, _, _, _, rfl, h⟩⟩
def SpPapI (g : Nat → Nat → Nat → Int → Nat) (args : Array Value) (v : Value) : Prop := ∃ (a f : Nat) (s : ByteArray) (mid : Int) (sc : Nat) (l : Int), args = #[paperV a f s mid sc, .int .i64 l] ∧ isFl (g a f sc l) v
theorem spPapI_iff (g : Nat → Nat → Nat → Int → Nat) (a f : Nat) (s : ByteArray) (mid : Int) (sc : Nat) (l : Int) (v : Value) : SpPapI g #[paperV a f s mid sc, .int .i64 l] v ↔ isFl (g a f sc l) v := by
  unfold SpPapI
  exact ⟨fun ⟨_, _, _, _, _, _, h, k⟩ => by simp at h; obtain ⟨⟨rfl, rfl, _, _, rfl⟩, rfl⟩ := h; exact k, fun h => ⟨_, _, _, _, _, _, rfl, h⟩⟩

/-- what the functions that regions call hand back -/
def FU (g : FuncId) (args : Array Value) (v : Value) : Prop :=
  (g = 56 ∧ SpIntN (fun a => .float .f64 (sinP a)) args v) ∨ (g = 54 ∧ SpIntN (fun a => .float .f64 (cosP a)) args v) ∨
  (g = 93 ∧ SpGl (fun _ f => eccP f) args v) ∨ (g = 70 ∧ SpGl (fun _ f => eccP f) args v) ∨
  (g = 41 ∧ SpOne fsqrt args v) ∨ (g = 71 ∧ SpTri (fun x y z => fsub x (fmul y z)) args v) ∨ (g = 42 ∧ SpTri (fun x y z => fadd x (fmul y z)) args v) ∨
  (g = 91 ∧ SpOne (fun x => can (lnP x)) args v) ∨ (g = 75 ∧ SpOne (fun x => can (lnP x)) args v) ∨
  (g = 85 ∧ SpOne expP args v) ∨ (g = 39 ∧ SpOne expP args v) ∨ (g = 72 ∧ SpOne lnR args v) ∨
  (g = 64 ∧ SpGlI (fun _ f l => isoP f l) args v) ∨ (g = 40 ∧ SpGlI (fun _ f l => isoP f l) args v) ∨
  (g = 106 ∧ SpPapI upP args v)
theorem lnC_c (x : Nat) (w : World) : Calls Tryz.prog 91 #[.float .f64 x] w (FlR (can (lnP (can x))) w) := by rw [lnP_can]; exact ln_c x w
theorem lnOfC_c (x : Nat) (w : World) : Calls Tryz.prog 75 #[.float .f64 x] w (FlR (can (lnP (can x))) w) := by rw [lnP_can]; exact lnOf_c x w
theorem expC_c (x : Nat) (w : World) : Calls Tryz.prog 85 #[.float .f64 x] w (FlR (expP (can x)) w) := by rw [expP_can]; exact exp_c x w
theorem expOfC_c (x : Nat) (w : World) : Calls Tryz.prog 39 #[.float .f64 x] w (FlR (expP (can x)) w) := by rw [expP_can]; exact expOf_c x w

set_option maxHeartbeats 8000000 in
theorem upOf_c (a f : Nat) (s : ByteArray) (mid : Int) (sc : Nat) (lat : Int) (w : World) : Calls Tryz.prog 106 #[paperV a f s mid sc, .int .i64 lat] w (FlR (upP a f sc lat) w) := by
  go_enter Tryz.func106, Tryz.ntmps106
  by_cases hz : D.order (fsqrt (eccP f)) 0 = some .eq
  · have HO : Hid (∀ r, can r = fsqrt (eccP f) → (FloatKind.f64.format.order r 0 != some .eq) = false) := Lib.hid (by
      intro r hr
      have hz' := hz
      rw [← hr, order_canZ] at hz'
      have : FloatKind.f64.format.order r 0 = some .eq := hz'
      rw [this]; rfl)
    have HZ := Lib.hid hz
    clear hz
    go_wp2_with (first
      | (go_at_call 30; refine (sincos_c _ _).mono ?_; rintro e w' ⟨rfl, rfl⟩)
      | (go_at_call 70; go_must (refine (squareOf_c a f _).mono ?_; rintro e w2 ⟨r2, rfl, hr2, hx⟩; obtain ⟨hb1, hw⟩ := ext1 hx; clear hx))
      | (go_at_call 41; go_must (refine (sqrt_c _ _).mono ?_; rintro e w2 ⟨r3, rfl, hr3, hx⟩; replace hw := hw.trans (bareN hx rfl rfl rfl rfl); replace hb1 := hb1.ext (bareN hx rfl rfl rfl rfl); clear hx; have kc := hb1.cell; rw [hr2] at hr3; have o1 := HO.out r3 hr3))
      | (with_reducible refine upon_fl rfl ?_; intro r n hr))
    go_ret
    refine ⟨_, rfl, ?_, by repeat (first | exact hw | refine Ext.drewN ?_ _)⟩
    unfold upP upQ
    rw [if_pos HZ.out]
    simp only [*, fbin]
  · have HO : Hid (∀ r, can r = fsqrt (eccP f) → (FloatKind.f64.format.order r 0 != some .eq) = true) := Lib.hid (by
      intro r hr
      have hz' := hz
      rw [← hr, order_canZ] at hz'
      have : ¬ FloatKind.f64.format.order r 0 = some .eq := hz'
      simpa using this)
    have HZ := Lib.hid hz
    clear hz
    go_wp2_with (first
      | (go_at_call 30; refine (sincos_c _ _).mono ?_; rintro e w' ⟨rfl, rfl⟩)
      | (go_at_call 70; go_must (refine (squareOf_c a f _).mono ?_; rintro e w2 ⟨r2, rfl, hr2, hx⟩; obtain ⟨hb1, hw⟩ := ext1 hx; clear hx))
      | (go_at_call 41; go_must (refine (sqrt_c _ _).mono ?_; rintro e w2 ⟨r3, rfl, hr3, hx⟩; replace hw := hw.trans (bareN hx rfl rfl rfl rfl); replace hb1 := hb1.ext (bareN hx rfl rfl rfl rfl); clear hx; have kc := hb1.cell; rw [hr2] at hr3; have o1 := HO.out r3 hr3))
      | (go_at_call 71; go_must (refine (less_c _ _ _ _).mono ?_; rintro e w2 ⟨r5, rfl, hr5, hx⟩; replace hw := hw.trans (bareN hx rfl rfl rfl rfl); replace hb1 := hb1.ext (bareN hx rfl rfl rfl rfl); clear kc; have kc := hb1.cell; clear hx))
      | (go_at_call 72; go_must (refine (tanhBack_c _ _).mono ?_; rintro e w2 ⟨r6, rfl, hr6, hx⟩; replace hw := hw.trans (bareN hx rfl rfl rfl rfl); replace hb1 := hb1.ext (bareN hx rfl rfl rfl rfl); clear kc; have kc := hb1.cell; clear hx))
      | (with_reducible refine upon_fl rfl ?_; intro r n hr))
    go_ret
    refine ⟨_, rfl, ?_, by repeat (first | exact hw | refine Ext.drewN ?_ _)⟩
    unfold upP upQ
    rw [if_neg HZ.out]
    simp only [*, fbin]
end Go.Proofs.YtcppgbhjbmfldaaGreatDoor

/- Walks: where a place is on paper: package flat's and the reference's. -/
namespace Go.Proofs.YtcppgbhjbmfldaaGreatDoor
open Go.RowKit Go.Fp Go.Rel
set_option maxRecDepth 20000

abbrev flatV (x y : Nat) : Value := .agg #[.float .f64 x, .float .f64 y]
def offN (mid lon : Int) : Int := normP lon - normP mid
theorem offN_wrap (mid lon : Int) : IntKind.i64.wrap (normP lon - normP mid) = offN mid lon := IntWalk.i64_in _ ⟨by have := normP_lo lon; have := normP_hi mid; omega, by have := normP_hi lon; have := normP_lo mid; omega⟩
def flatX (n a f sc : Nat) (mid lon lat : Int) : Nat := if n = 2 then fmul (downP a f sc lat) (can (sinP (offN mid lon))) else fmul (fmul (can a) (can sc)) (fmul (can (floatOfInt .f64 (signP (offN mid lon)))) (can 4445950764994258515))
def flatY (n a f sc : Nat) (mid lon lat : Int) : Nat := if n = 2 then negC (fmul (downP a f sc lat) (can (cosP (offN mid lon)))) else if n = 1 then upP a f sc lat else fmul (fmul (can a) (can sc)) (isoP f lat)
def SpNorm (f : Int → Int) (args : Array Value) (v : Value) : Prop := ∃ a : Int, args = #[.int .i64 a] ∧ v = .int .i64 (f a)
theorem spNorm_iff (f : Int → Int) (a : Int) (v : Value) : SpNorm f #[.int .i64 a] v ↔ v = .int .i64 (f a) := by
  unfold SpNorm
  exact ⟨fun ⟨_, h, k⟩ => by simp at h; obtain rfl := h; exact k, fun h => ⟨_, rfl, h⟩⟩
theorem same_call {P : Program} {f : FuncId} {args : Array Value} {v : Value} {W : World} (h : Calls P f args W (fun e w' => e = .returned v ∧ W = w')) : Calls P f args W (fun e w' => ∃ u, e = .returned u ∧ u = v ∧ Ext W w') :=
  h.mono fun _ _ ⟨he, hx⟩ => ⟨_, he, rfl, hx ▸ Ext.refl _⟩

def FlatR (A : Nat → Addr) (k : Int) (X Y : Nat) (w : World) (e : Ending) (w' : World) : Prop := ∃ x y v, e = .returned (.tuple #[flatV x y, v]) ∧ ErrOf A k v ∧ can x = X ∧ can y = Y ∧ Ext w w'
def FlatQ (X Y : Nat) (w : World) (e : Ending) (w' : World) : Prop := ∃ x y, e = .returned (flatV x y) ∧ can x = X ∧ can y = Y ∧ Ext w w'

theorem setCell_other' (w : World) (n i k : Nat) (v : Value) (h : k ≠ n) : (w.setCell ⟨n, i, none⟩ v).heap[k]? = w.heap[k]? := Below.heap_setCell _ _ _ _ h
def FT (g : FuncId) (args : Array Value) (v : Value) : Prop := FU g args v ∨ (g = 57 ∧ SpNorm normP args v) ∨ (g = 29 ∧ SpNorm normP args v) ∨ (g = 31 ∧ SpNorm signP args v) ∨ (g = 28 ∧ SpNorm signP args v)
end Go.Proofs.YtcppgbhjbmfldaaGreatDoor

/- Walks: where a place is on paper: the reference's. -/
namespace Go.Proofs.YtcppgbhjbmfldaaGreatDoor
open Go.RowKit Go.Fp Go.Rel
set_option maxRecDepth 20000

end Go.Proofs.YtcppgbhjbmfldaaGreatDoor

/- Walks: the paper of the statements, the place that they ask for by its numbers. -/
namespace Go.Proofs.YtcppgbhjbmfldaaGreatDoor
open Go.RowKit Go.Fp Go.Rel
set_option maxRecDepth 20000

theorem order_canL (x : Nat) {c : Nat} (hc : isNan c = false) : D.order (can x) c = D.order x c := by
  have := order_can x c
  rwa [can_of_not hc] at this
theorem drawn_num : chkP (papP (okG 4617315517961601024 0) 0 4607182418800017408) 0 0 = 0 ∧ D.order (flatX 0 4617315517961601024 0 4607182418800017408 0 90000000000 0) 4620524332696102502 = some .gt ∧ D.order (flatX 0 4617315517961601024 0 4607182418800017408 0 90000000000 0) 4620535591695170929 = some .lt := by decide +kernel
end Go.Proofs.YtcppgbhjbmfldaaGreatDoor

/- Several blocks in one fact; what a region leaves that makes a block and stores into it. -/
namespace Go.Rel
open Go.RowKit
/-- several blocks -/
def Bks (w : World) : List (Nat × TypeId × Array Value) → Prop
  | [] => True
  | x :: l => Blk w x.1 x.2.1 x.2.2 ∧ Bks w l
theorem Bks.ext {w w' : World} : ∀ {l : List (Nat × TypeId × Array Value)} (_ : Bks w l) (_ : Ext w w'), Bks w' l
  | [], _, _ => trivial
  | _ :: _, h, hx => ⟨h.1.ext hx, Bks.ext h.2 hx⟩
theorem Blk.keep {w u : World} {n : Nat} {t : TypeId} {c : Array Value} (h : Blk w n t c) (o : Obj) (hs : ∀ k, k ≠ w.heap.size → u.heap[k]? = (w.alloc o).heap[k]?) : Blk u n t c :=
  (h.ext ((Ext.refl w).alloc o)).same hs (by have := h.lt; omega)
theorem Bks.keep {w u : World} : ∀ {l : List (Nat × TypeId × Array Value)} (_ : Bks w l) (o : Obj) (_ : ∀ k, k ≠ w.heap.size → u.heap[k]? = (w.alloc o).heap[k]?), Bks u l
  | [], _, _, _ => trivial
  | _ :: _, h, o, hs => ⟨h.1.keep o hs, Bks.keep h.2 o hs⟩
theorem Bks.same {w u : World} {g : Nat} : ∀ {l : List (Nat × TypeId × Array Value)} (_ : Bks w l) (_ : ∀ k, k ≠ g → u.heap[k]? = w.heap[k]?) (_ : ∀ x ∈ l, x.1 ≠ g), Bks u l
  | [], _, _, _ => trivial
  | x :: _, h, hs, hg => ⟨h.1.same hs (hg x (List.mem_cons_self)), Bks.same h.2 hs (fun y hy => hg y (List.mem_cons_of_mem _ hy))⟩
theorem Bks.cons {w : World} {n : Nat} {t : TypeId} {c : Array Value} {l : List (Nat × TypeId × Array Value)} (h : Blk w n t c) (k : Bks w l) : Bks w ((n, t, c) :: l) := ⟨h, k⟩
theorem Bks.fresh {w : World} : ∀ {l : List (Nat × TypeId × Array Value)} (_ : Bks w l), ∀ x ∈ l, x.1 < w.heap.size
  | [], _, _, hx => by cases hx
  | _ :: _, h, x, hx => by
    cases hx with
    | head => exact h.1.lt
    | tail _ hx => exact Bks.fresh h.2 x hx
end Go.Rel
namespace Go.Proofs.YtcppgbhjbmfldaaGreatDoor
open Go.RowKit Go.Fp Go.Rel
set_option maxRecDepth 20000

theorem bareX {w w' v : World} (h : Ext v w') (ho : w.os = w'.os) (ht : w.tape = w'.tape) (hp : w.output = w'.output) (hh : w.heap = w'.heap) : Ext v w :=
  ⟨ho.trans h.os, ht.trans h.tape, hp.trans h.output, by rw [hh]; exact h.size, fun k hk => by rw [hh]; exact h.block k hk⟩
theorem blk_set' {w : World} {n i : Nat} {t : TypeId} {cs : Array Value} (v : Value) (h : Blk w n t cs) : Blk (w.setCell ⟨n, i, none⟩ v) n t (cs.setIfInBounds i v) := by
  unfold Blk at *
  simp [World.setCell, Array.getElem?_modify, h]
/-- a block made behind all that is known -/
theorem fin_new {w w3 : World} {l : List (Nat × TypeId × Array Value)} {t : TypeId} {cs : Array Value} (h : Ext w w3) (hl : Bks w3 l) :
    Ext w (w3.alloc (.cells cs t)) ∧ Bks (w3.alloc (.cells cs t)) l ∧ Blk (w3.alloc (.cells cs t)) w3.heap.size t cs :=
  ⟨h.alloc _, hl.ext ((Ext.refl _).alloc _), Blk.new _ _ _⟩
theorem fin_two {w w3 : World} {l : List (Nat × TypeId × Array Value)} {n : Nat} {t : TypeId} {a b u v : Value} (h : Ext w w3) (hl : Bks w3 l) (hz : Blk w3 n t #[a, b]) (hlt : ∀ x ∈ l, x.1 < n) (hw : w.heap.size ≤ n) :
    Ext w ((w3.setCell ⟨n, 0, none⟩ u).setCell ⟨n, 1, none⟩ v) ∧ Bks ((w3.setCell ⟨n, 0, none⟩ u).setCell ⟨n, 1, none⟩ v) l ∧ Blk ((w3.setCell ⟨n, 0, none⟩ u).setCell ⟨n, 1, none⟩ v) n t #[u, v] := by
  have ho : ∀ k, k ≠ n → ((w3.setCell ⟨n, 0, none⟩ u).setCell ⟨n, 1, none⟩ v).heap[k]? = w3.heap[k]? := fun k hk => by
    rw [setCell_other' _ _ _ _ _ hk, setCell_other' _ _ _ _ _ hk]
  refine ⟨(h.setCell hw _).setCell hw _, hl.same ho (fun x hx => Nat.ne_of_lt (hlt x hx)), ?_⟩
  simpa using blk_set' (i := 1) v (blk_set' (i := 0) u hz)
theorem fin_three {w w3 : World} {l : List (Nat × TypeId × Array Value)} {n : Nat} {t : TypeId} {a b c u v x : Value} (h : Ext w w3) (hl : Bks w3 l) (hz : Blk w3 n t #[a, b, c]) (hlt : ∀ x ∈ l, x.1 < n) (hw : w.heap.size ≤ n) :
    Ext w (((w3.setCell ⟨n, 0, none⟩ u).setCell ⟨n, 1, none⟩ v).setCell ⟨n, 2, none⟩ x) ∧ Bks (((w3.setCell ⟨n, 0, none⟩ u).setCell ⟨n, 1, none⟩ v).setCell ⟨n, 2, none⟩ x) l ∧
    Blk (((w3.setCell ⟨n, 0, none⟩ u).setCell ⟨n, 1, none⟩ v).setCell ⟨n, 2, none⟩ x) n t #[u, v, x] := by
  have ho : ∀ k, k ≠ n → (((w3.setCell ⟨n, 0, none⟩ u).setCell ⟨n, 1, none⟩ v).setCell ⟨n, 2, none⟩ x).heap[k]? = w3.heap[k]? := fun k hk => by
    rw [setCell_other' _ _ _ _ _ hk, setCell_other' _ _ _ _ _ hk, setCell_other' _ _ _ _ _ hk]
  refine ⟨((h.setCell hw _).setCell hw _).setCell hw _, hl.same ho (fun x hx => Nat.ne_of_lt (hlt x hx)), ?_⟩
  simpa using blk_set' (i := 2) x (blk_set' (i := 1) v (blk_set' (i := 0) u hz))

end Go.Proofs.YtcppgbhjbmfldaaGreatDoor

/- The walk of the statement FlatTo. -/
namespace Go.Proofs.YtcppgbhjbmfldaaGreatDoor
open Go.RowKit Go.Fp Go.Rel
set_option maxRecDepth 20000

def isFlat (X Y : Nat) (v : Value) : Prop := ∃ x y, v = flatV x y ∧ can x = X ∧ can y = Y
theorem FlatQ.call {P : Program} {f : FuncId} {args : Array Value} {X Y : Nat} {W : World} (h : Calls P f args W (FlatQ X Y W)) : Calls P f args W (fun e w' => ∃ v, e = .returned v ∧ isFlat X Y v ∧ Ext W w') :=
  h.mono fun _ _ ⟨x, y, he, hx, hy, hw⟩ => ⟨_, he, ⟨x, y, rfl, hx, hy⟩, hw⟩
/-- the cells of a paper and of a place -/
theorem cellsP {w' : World} {n a f sc : Nat} {s : ByteArray} {mid r t : Int} {tG tP : TypeId} (h : Bks w' [(n, tG, #[Value.float .f64 a, Value.float .f64 f, Value.string s, Value.int .i64 mid, Value.float .f64 sc]), (n + 1, tP, #[Value.int .i64 r, Value.int .i64 t])]) :
    w'.cell? ⟨n, 0, none⟩ = some (.float .f64 a) ∧ w'.cell? ⟨n, 1, none⟩ = some (.float .f64 f) ∧ w'.cell? ⟨n, 2, none⟩ = some (.string s) ∧ w'.cell? ⟨n, 3, none⟩ = some (.int .i64 mid) ∧ w'.cell? ⟨n, 4, none⟩ = some (.float .f64 sc) ∧ w'.cell? ⟨n + 1, 0, none⟩ = some (.int .i64 r) ∧ w'.cell? ⟨n + 1, 1, none⟩ = some (.int .i64 t) :=
  ⟨h.1.cell 0, h.1.cell 1, h.1.cell 2, h.1.cell 3, h.1.cell 4, h.2.1.cell 0, h.2.1.cell 1⟩
theorem chkP_cases (g : Bool) (n sc : Nat) (lat : Int) : 0 < chkP (papP g n sc) n lat ∨ chkP (papP g n sc) n lat = 0 ∧ n ≠ 3 := by
  rcases papP_cases g n sc with ⟨h, h3⟩ | h | h
  · rw [h]
    unfold chkP
    rw [if_neg (by decide)]
    split
    · exact .inl (by decide)
    · split
      · exact .inl (by decide)
      · exact .inr ⟨rfl, h3⟩
  · rw [h]; exact .inl (by unfold chkP; rw [if_pos (by decide)]; decide)
  · rw [h]; exact .inl (by unfold chkP; rw [if_pos (by decide)]; decide)
end Go.Proofs.YtcppgbhjbmfldaaGreatDoor
