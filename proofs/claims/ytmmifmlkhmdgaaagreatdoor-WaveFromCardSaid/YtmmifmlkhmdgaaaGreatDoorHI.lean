/- Walk: the logarithm of the reference. -/
import Derived.Test.YtmmifmlkhmdgaaaGreatDoorZF
import Derived.Test.YtmmifmlkhmdgaaaGreatDoorZC
namespace Go.Proofs.YtmmifmlkhmdgaaaGreatDoor
open Go.RowKit Go.Fp Go.Rel Ieee
set_option maxRecDepth 20000

theorem sum_opp (s : Bool) (m : Nat) (i : Int) : (Datum.number s m i).sum (Datum.number s m i).opposite = some (.number false 0 i) := by
  cases s <;> simp [Datum.sum, Datum.opposite, signed] <;> omega
theorem finP_num {x m : Nat} {i : Int} {s : Bool} (h : D.read x = .number s m i) : finP x = true := by
  have e : D.sub x x = some 0 := by
    unfold Format.sub
    rw [h, sum_opp]
    show some (D.nearest false 0 i) = some 0
    unfold Format.nearest
    simp [Format.word]
  have e2 : fsub x x = 0 := by unfold fsub; rw [e]; rfl
  unfold finP
  rw [e2]
  decide +kernel
theorem finP_inf {x : Nat} {s : Bool} (h : D.read x = .infinity s) : finP x = false := by
  have e : D.sub x x = none := by
    unfold Format.sub
    rw [h]
    cases s <;> rfl
  have e2 : fsub x x = QN := by unfold fsub; rw [e]; rfl
  unfold finP
  rw [e2]
  decide +kernel

def cN (k : Nat) : Nat := floatOfInt .f64 (21 - 2 * (k : Int))
theorem cN_pos : ∀ k, k < 11 → D.order (cN k) 0 = some .gt := by decide +kernel
theorem cN_end : D.order (cN 11) 0 = some .lt := by decide +kernel
theorem cN_next : ∀ k, k < 11 → fsub (can (cN k)) (can two) = cN (k + 1) ∧ isNan (cN (k + 1)) = false := by decide +kernel
def cM : Value → Nat
  | .float _ x => if x = cN 0 then 12 else if x = cN 1 then 11 else if x = cN 2 then 10 else if x = cN 3 then 9 else if x = cN 4 then 8 else if x = cN 5 then 7 else if x = cN 6 then 6 else if x = cN 7 then 5 else if x = cN 8 then 4 else if x = cN 9 then 3 else if x = cN 10 then 2 else 1
  | _ => 0
theorem cM_less : ∀ k, k < 11 → cM (.float .f64 (cN (k + 1))) < cM (.float .f64 (cN k)) := by decide +kernel
theorem lnS_next (z k : Nat) : lnS z (k + 1) = fadd (fdiv (can one1) (can (cN k))) (fmul z (lnS z k)) := rfl
theorem can_num' {x c : Nat} (h : can x = c) (hc : isNan c = false) : x = c := by
  cases hn : isNan x with
  | false => rw [can_of_not hn] at h; exact h
  | true => rw [can_of_nan hn] at h; rw [← h, isNan_QN] at hc; cases hc

/-- at or above root two; below root one half -/
def hiB (m : Nat) (j : Int) : Prop := CR * 2 ^ 1022 ≤ m * 2 ^ (j + 1074).toNat
def loB (m : Nat) (j : Int) : Prop := m * 2 ^ (j + 1074).toNat < CR * 2 ^ 1021
theorem hi_lo {m : Nat} {j : Int} (h : hiB m j) (hlt : m < 2 ^ 53) : -53 ≤ j := lo_of_ge h hlt
theorem lo_hi {m : Nat} {j : Int} (h : loB m j) (h0 : m ≠ 0) : j < 0 := hi_of_lt h h0
theorem up_no {m : Nat} {j : Int} (h : hiB m j) (hj : -1073 ≤ j) : ¬ loB m (j - 1) := Nat.not_lt.2 (up_step h hj)
theorem down_no {m : Nat} {j : Int} (h : loB m j) (hj : -1074 ≤ j) : ¬ hiB m (j + 1) := Nat.not_le.2 (down_step h hj)
theorem mid_of {m : Nat} {j : Int} (h0 : m ≠ 0) (hlt : m < 2 ^ 53) (hj : -1074 ≤ j) (h1 : ¬ hiB m j) (h2 : ¬ loB m j) : j = midJ m := at_mid h0 hlt hj (Nat.not_le.1 h1) (Nat.not_lt.1 h2)
theorem up_ask {x m : Nat} {j : Int} (h : D.read x = D.read (W m j)) (hm : m ≠ 0) (hm2 : m < 2 ^ 53) (h1 : -1074 ≤ j) (h2 : j ≤ 971) :
    (hiB m j ∧ (FloatKind.f64.format.order x 4609047870845172685 = some .gt ∨ FloatKind.f64.format.order x 4609047870845172685 = some .eq)) ∨
    (¬ hiB m j ∧ (FloatKind.f64.format.order x 4609047870845172685 == some .gt) = false ∧ (FloatKind.f64.format.order x 4609047870845172685 == some .eq) = false) := by
  have g := ge_root2 h hm hm2 h1 h2
  by_cases hc : hiB m j
  · refine .inl ⟨hc, ?_⟩
    have := g.2 hc
    rw [Bool.or_eq_true, beq_iff_eq, beq_iff_eq] at this
    exact this
  · refine .inr ⟨hc, ?_⟩
    have := mt g.1 hc
    rw [Bool.not_eq_true, Bool.or_eq_false_iff] at this
    exact this
theorem down_ask {x m : Nat} {j : Int} (h : D.read x = D.read (W m j)) (hm : m ≠ 0) (hm2 : m < 2 ^ 53) (h1 : -1074 ≤ j) (h2 : j ≤ 971) :
    (loB m j ∧ FloatKind.f64.format.order x 4604544271217802189 = some .lt) ∨ (¬ loB m j ∧ (FloatKind.f64.format.order x 4604544271217802189 == some .lt) = false) := by
  have g := lt_root h hm hm2 h1 h2
  by_cases hc : loB m j
  · exact .inl ⟨hc, by have := g.2 hc; rwa [beq_iff_eq] at this⟩
  · exact .inr ⟨hc, by have := mt g.1 hc; rwa [Bool.not_eq_true] at this⟩
theorem half_to {r y m : Nat} {j : Int} (h : D.read r = D.read (W m j)) (h0 : m ≠ 0) (hlt : m < 2 ^ 53) (hh : hiB m j) (hj : j ≤ 971) (hy : can y = fdiv (can r) (can two)) : D.read y = D.read (W m (j - 1)) ∧ -1074 ≤ j - 1 := by
  have h1 := hi_lo hh hlt
  have hn : isNan r = false := by
    obtain ⟨m', p, hr, _⟩ := W_read h0 hlt (show -1074 ≤ j by omega) hj
    rw [nan_rd h]; unfold isNan; rw [hr]; rfl
  have hn2 : isNan (W m (j - 1)) = false := by
    obtain ⟨m', p, hr, _⟩ := W_read h0 hlt (show -1074 ≤ j - 1 by omega) (show j - 1 ≤ 971 by omega)
    unfold isNan; rw [hr]; rfl
  have e : y = W m (j - 1) := by
    refine can_num' ?_ hn2
    rw [hy, can_of_not hn, can_of_not (show isNan two = false by decide +kernel), step_half h h0 hlt (by omega) (by omega)]
  exact ⟨by rw [e], by omega⟩
theorem double_to {r y m : Nat} {j : Int} (h : D.read r = D.read (W m j)) (h0 : m ≠ 0) (hlt : m < 2 ^ 53) (hh : loB m j) (hj : -1074 ≤ j) (hy : can y = fmul (can r) (can two)) : D.read y = D.read (W m (j + 1)) ∧ j + 1 ≤ 971 := by
  have h1 := lo_hi hh h0
  have hn : isNan r = false := by
    obtain ⟨m', p, hr, _⟩ := W_read h0 hlt hj (show j ≤ 971 by omega)
    rw [nan_rd h]; unfold isNan; rw [hr]; rfl
  have hn2 : isNan (W m (j + 1)) = false := by
    obtain ⟨m', p, hr, _⟩ := W_read h0 hlt (show -1074 ≤ j + 1 by omega) (show j + 1 ≤ 971 by omega)
    unfold isNan; rw [hr]; rfl
  have e : y = W m (j + 1) := by
    refine can_num' ?_ hn2
    rw [hy, can_of_not hn, can_of_not (show isNan two = false by decide +kernel), step_double h h0 hlt (by omega) (by omega)]
  exact ⟨by rw [e], by omega⟩

set_option maxHeartbeats 16000000 in
theorem lnOf_main (x m : Nat) (i : Int) (w : World) (h : D.read x = .number false m i) (h0 : m ≠ 0) : Calls Tryz.prog 72 #[.float .f64 x] w (FlR (lnQ (W m (midJ m)) (i - midJ m)) w) := by
  obtain ⟨hlt, hi1, hi2⟩ := read_fields h
  have hxn : isNan x = false := by unfold isNan; rw [h]; rfl
  have e0 : FloatKind.f64.format.order x x = some .eq := order_self hxn
  have e1 : FloatKind.f64.format.order x 0 = some .gt := order_zero h h0
  have HI := Lib.hid (finR_c x)
  rw [can_of_not hxn, finP_num h] at HI
  have hst := read_W h h0
  clear hxn
  go_enter Tryz.func72, Tryz.ntmps72
  go_wp2_with (first
    | (go_at_call 88; go_must (refine (HI.out _).mono ?_; rintro e w1 ⟨rfl, hx⟩; have hw : Ext w w1 := hx)))
  have hw0 : Ext w w1 := hw
  have HL := Lib.hid hlt
  have HI1 := Lib.hid hi1
  have HI2 := Lib.hid hi2
  clear hw h hlt hi1 hi2 e0 e1
  go_loopw [0, 4] (fun xv kv wr => ∃ (r : Nat) (j : Int), j ≤ i ∧ -1074 ≤ j ∧ (j = i ∨ ¬ loB m j) ∧ xv = .float .f64 r ∧ kv = .int .i64 (i - j) ∧ D.read r = D.read (W m j) ∧ Ext w wr) (fun _ kv _ => (2200 - intOf kv).toNat)
  case atStart => exact ⟨x, i, by omega, HI1.out, .inl rfl, rfl, by simp, hst, hw0⟩
  case round =>
    clear hw0
    obtain ⟨r, j, hj, hj1, hlo, rfl, rfl, hrd, hw⟩ := hrel
    have hi2 := HI2.out
    have hi1 := HI1.out
    have hj2 : j ≤ 971 := by omega
    have HG := Lib.hid (And.intro hj (And.intro hj1 hj2))
    have RD := Lib.hid hrd
    have LO := Lib.hid hlo
    obtain ⟨k, hk⟩ : ∃ k, k = i - j := ⟨_, rfl⟩
    have HK := Lib.hid hk
    have b1 : -1 < k + 1 := by omega
    have b2 : k < 2100 := by omega
    rcases up_ask hrd h0 HL.out hj1 hj2 with ⟨hc, ho⟩ | ⟨hc, ho1, ho2⟩
    · have HC := Lib.hid hc
      rw [← hk]
      clear hrd hc hj hj1 hk hj2 hlo hi1 hi2
      rcases ho with ho | ho
      all_goals
        go_wp2_with (first | (with_reducible refine upon_fl rfl ?_; intro y ny hy))
        go_roundw
        case rel =>
          obtain ⟨q1, q2⟩ := half_to RD.out h0 HL.out HC.out HG.out.2.2 hy
          refine ⟨y, j - 1, ?_, q2, .inr (up_no HC.out ?_), rfl, ?_, q1, ?_⟩
          · have := HG.out.1; omega
          · have := hi_lo HC.out HL.out; omega
          · rw [HK.out]; congr 1; omega
          · repeat (first | exact hw | refine Ext.drewN ?_ _)
        case measure => simp [intOf]; omega
    · have HC := Lib.hid hc
      have hi3 : j = i ∨ j ≤ i := .inr hj
      have b3 : -2200 ≤ k := by omega
      rw [← hk]
      clear hrd hc hj hj1 hk hj2 hlo hi1 hi2 hi3 b1 b3
      go_wp2_with fail
      go_loopw [0, 4] (fun xv kv wr => ∃ (r : Nat) (j : Int), -1074 ≤ j ∧ j ≤ 971 ∧ ¬ hiB m j ∧ xv = .float .f64 r ∧ kv = .int .i64 (i - j) ∧ D.read r = D.read (W m j) ∧ Ext w wr) (fun _ kv _ => (2200 + intOf kv).toNat)
      case atStart => exact ⟨r, j, HG.out.2.1, HG.out.2.2, HC.out, rfl, by rw [HK.out], RD.out, hw⟩
      case round =>
        clear hw ho1 ho2 b2 LO RD HG HC HK
        obtain ⟨r, j, hj1, hj2, hhi, rfl, rfl, hrd, hw⟩ := hrel
        have hi2 := HI2.out
        have hi1 := HI1.out
        have HG := Lib.hid (And.intro hj1 hj2)
        have RD := Lib.hid hrd
        have HH := Lib.hid hhi
        obtain ⟨k, hk⟩ : ∃ k, k = i - j := ⟨_, rfl⟩
        have HK := Lib.hid hk
        have b1 : -2100 < k := by omega
        have b2 : k < 2100 := by omega
        rcases down_ask hrd h0 HL.out hj1 hj2 with ⟨hc, ho⟩ | ⟨hc, ho⟩
        · have HC := Lib.hid hc
          rw [← hk]
          clear hrd hc hj1 hk hj2 hhi hi1 hi2
          go_wp2_with (first | (with_reducible refine upon_fl rfl ?_; intro y ny hy))
          go_roundw
          case rel =>
            obtain ⟨q1, q2⟩ := double_to RD.out h0 HL.out HC.out HG.out.1 hy
            refine ⟨y, j + 1, ?_, q2, down_no HC.out HG.out.1, rfl, ?_, q1, ?_⟩
            · have := HG.out.1; omega
            · rw [HK.out]; congr 1; omega
            · repeat (first | exact hw | refine Ext.drewN ?_ _)
          case measure => simp [intOf]; omega
        · have hM : j = midJ m := mid_of h0 HL.out hj1 hhi hc
          have hQ : ∀ k, lnQ (W m (midJ m)) k = lnQ (can r) k := by
            intro k
            have hn : isNan r = false := by
              obtain ⟨m', p, hr, _⟩ := W_read h0 HL.out hj1 hj2
              rw [nan_rd hrd]; unfold isNan; rw [hr]; rfl
            rw [can_of_not hn, ← hM]
            exact (lnQ_read k hrd).symm
          have HQ := Lib.hid hQ
          have HZ : Hid (lnQ (W m (midJ m)) (i - midJ m) = lnQ (can r) k) := Lib.hid (by rw [hQ, ← hM, ← hk])
          rw [HQ.out, ← hM, ← hk]
          clear hrd hc hj1 hk hj2 hhi hi1 hi2 hM hQ HH RD HG b1 b2
          go_wp2_with (first | (with_reducible refine upon_fl rfl ?_; intro y ny hy))
          rename_i q1 m1 g1 q2 m2 g2 q3 m3 g3 KK hKK
          have HQ4 := Lib.hid (And.intro g1 (And.intro g2 (And.intro g3 hy)))
          clear g1 g2 g3 hy
          go_loopw [7, 8] (fun pv nv wr => ∃ (p k : Nat), k ≤ 11 ∧ pv = .float .f64 p ∧ nv = .float .f64 (cN k) ∧ can p = lnS (can y) k ∧ Ext w wr) (fun _ nv _ => cM nv)
          case atStart => exact ⟨_, 0, by omega, rfl, rfl, rfl, by repeat (first | exact hw | refine Ext.drewN ?_ _)⟩
          case round =>
            clear hw
            obtain ⟨p, n, hn, rfl, rfl, hp, hw⟩ := hrel
            have HP := Lib.hid hp
            clear hp
            by_cases hlt : n < 11
            · have o1 : FloatKind.f64.format.order (cN n) 0 = some .gt := cN_pos n hlt
              have HC := Lib.hid (cN_next n hlt)
              have HL := Lib.hid (cM_less n hlt)
              have HN := Lib.hid hlt
              clear hlt
              generalize hcn : cN n = c at *
              go_wp2_with (first | (with_reducible refine upon_fl rfl ?_; intro u nu hu))
              rename_i t1 k1 d1 t2 k2 d2 t3 k3 d3
              go_roundw
              case rel =>
                have e1 : u = cN (n + 1) := can_num' (hu.trans HC.out.1) HC.out.2
                have e2 : can t3 = lnS (can y) (n + 1) := by
                  rw [lnS_next, hcn, ← HP.out]
                  simp only [*, fbin]
                have hw2 : Ext w _ := hw
                have h12 : n + 1 ≤ 11 := HN.out
                exact ⟨t3, n + 1, h12, rfl, by rw [e1], e2, by repeat (first | exact hw | refine Ext.drewN ?_ _)⟩
              case measure =>
                have e1 : u = cN (n + 1) := can_num' (hu.trans HC.out.1) HC.out.2
                subst e1
                have := HL.out
                exact this
            · obtain rfl : n = 11 := by omega
              have o1 : FloatKind.f64.format.order (cN 11) 0 = some .lt := cN_end
              generalize hcn : cN 11 = c at *
              go_wp2_with (first | (with_reducible refine upon_fl rfl ?_; intro u nu hu))
              go_ret
              refine ⟨_, rfl, ?_, by repeat (first | exact hw | refine Ext.drewN ?_ _)⟩
              obtain ⟨g1, g2, g3, g4⟩ := HQ4.out
              have hP := HP.out
              rw [HZ.out]
              simp only [lnQ, fbin] at *
              simp only [*]

set_option maxHeartbeats 4000000 in
theorem lnOf_c (x : Nat) (w : World) : Calls Tryz.prog 72 #[.float .f64 x] w (FlR (can (lnP x)) w) := by
  cases hn : isNan x with
  | true =>
    have hE : lnP x = QN := by unfold lnP; exact if_pos (.inl hn)
    rw [hE]
    have e0 : FloatKind.f64.format.order x x = none := order_l _ _ hn
    clear hn hE
    go_enter Tryz.func72, Tryz.ntmps72
    go_wp2_with (first | (go_at_call 81; go_must (refine (nan_c _).mono ?_; rintro e w1 ⟨rfl, rfl⟩)))
    go_ret
    exact ⟨_, rfl, rfl, Ext.refl _⟩
  | false =>
    have e0 : FloatKind.f64.format.order x x = some .eq := order_self hn
    by_cases hl : D.order x 0 = some .lt
    · have hE : lnP x = QN := by unfold lnP; exact if_pos (.inr hl)
      rw [hE]
      have e1 : FloatKind.f64.format.order x 0 = some .lt := hl
      clear hn hE hl
      go_enter Tryz.func72, Tryz.ntmps72
      go_wp2_with (first | (go_at_call 81; go_must (refine (nan_c _).mono ?_; rintro e w1 ⟨rfl, rfl⟩)))
      go_ret
      exact ⟨_, rfl, rfl, Ext.refl _⟩
    · have hno : ¬ (isNan x = true ∨ D.order x 0 = some .lt) := by
        intro h; rcases h with h | h
        · rw [hn] at h; cases h
        · exact hl h
      by_cases he : D.order x 0 = some .eq
      · have hE : lnP x = 18442240474082181120 := by unfold lnP; rw [if_neg hno, if_pos he]
        rw [hE]
        have e1 : FloatKind.f64.format.order x 0 = some .eq := he
        clear hn hE hl he hno
        go_enter Tryz.func72, Tryz.ntmps72
        go_wp2_with (first | (go_at_call 67; go_must (refine (infm_c _).mono ?_; rintro e w1 ⟨rfl, rfl⟩)))
        go_ret
        exact ⟨_, rfl, rfl, Ext.refl _⟩
      · rcases pos_cases hn hl he with hi | ⟨m, i, hr, h0⟩
        · have hE : lnP x = x := by unfold lnP; rw [if_neg hno, if_neg he, hi]
          rw [hE]
          have hz : D.read 0 = .number false 0 (-1074) := by decide +kernel
          have e1 : FloatKind.f64.format.order x 0 = some .gt := by
            show D.order x 0 = some .gt
            unfold Format.order; rw [hi, hz]; rfl
          have HI := Lib.hid (finR_c x)
          rw [can_of_not hn, finP_inf hi] at HI
          clear hn hE hl he hno hi hz
          go_enter Tryz.func72, Tryz.ntmps72
          go_wp2_with (first | (go_at_call 88; go_must (refine (HI.out _).mono ?_; rintro e w1 ⟨rfl, hx⟩)))
          go_ret
          exact ⟨_, rfl, rfl, hx⟩
        · have hE : lnP x = lnQ (W m (midJ m)) (i - midJ m) := by unfold lnP; rw [if_neg hno, if_neg he, hr]
          rw [hE, show can (lnQ (W m (midJ m)) (i - midJ m)) = lnQ (W m (midJ m)) (i - midJ m) from can_fadd _ _]
          exact lnOf_main x m i w hr h0
end Go.Proofs.YtmmifmlkhmdgaaaGreatDoor
