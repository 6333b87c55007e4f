/- Walk: the logarithm of the reference. -/
import Derived.Test.YtddjppaccpioiaaDoorZL
import Derived.Deep.RegionHeld3
import Derived.Deep.DeepCutAuto
namespace Go.Proofs.YtddjppaccpioiaaDoor
open Go.RowKit Go.Fp Go.Rel Ieee
set_option maxRecDepth 20000

theorem sum_opp (s : Bool) (m : Nat) (i : Int) : (Datum.number s m i).sum (Datum.number s m i).opposite = some (.number false 0 i) := by
  cases s <;> simp [Datum.sum, Datum.opposite, signed] <;> omega
theorem finP_num {x m : Nat} {i : Int} {s : Bool} (h : D.read x = .number s m i) : finP x = true := by
  have e : D.sub x x = some 0 := by
    unfold Format.sub
    rw [h, sum_opp]
    show some (D.nearest false 0 i) = some 0
    unfold Format.nearest
    simp [Format.word]
  have e2 : fsub x x = 0 := by unfold fsub; rw [e]; rfl
  unfold finP
  rw [e2]
  decide +kernel
theorem finP_inf {x : Nat} {s : Bool} (h : D.read x = .infinity s) : finP x = false := by
  have e : D.sub x x = none := by
    unfold Format.sub
    rw [h]
    cases s <;> rfl
  have e2 : fsub x x = QN := by unfold fsub; rw [e]; rfl
  unfold finP
  rw [e2]
  decide +kernel

def cN (k : Nat) : Nat := floatOfInt .f64 (21 - 2 * (k : Int))
theorem cN_pos : ∀ k, k < 11 → D.order (cN k) 0 = some .gt := by decide +kernel
theorem cN_end : D.order (cN 11) 0 = some .lt := by decide +kernel
theorem cN_next : ∀ k, k < 11 → fsub (can (cN k)) (can two) = cN (k + 1) ∧ isNan (cN (k + 1)) = false := by decide +kernel
def cM : Value → Nat
  | .float _ x => if x = cN 0 then 12 else if x = cN 1 then 11 else if x = cN 2 then 10 else if x = cN 3 then 9 else if x = cN 4 then 8 else if x = cN 5 then 7 else if x = cN 6 then 6 else if x = cN 7 then 5 else if x = cN 8 then 4 else if x = cN 9 then 3 else if x = cN 10 then 2 else 1
  | _ => 0
theorem cM_less : ∀ k, k < 11 → cM (.float .f64 (cN (k + 1))) < cM (.float .f64 (cN k)) := by decide +kernel
theorem lnS_next (z k : Nat) : lnS z (k + 1) = fadd (fdiv (can one1) (can (cN k))) (fmul z (lnS z k)) := rfl
theorem can_num' {x c : Nat} (h : can x = c) (hc : isNan c = false) : x = c := by
  cases hn : isNan x with
  | false => rw [can_of_not hn] at h; exact h
  | true => rw [can_of_nan hn] at h; rw [← h, isNan_QN] at hc; cases hc

/-- at or above root two; below root one half -/
def hiB (m : Nat) (j : Int) : Prop := CR * 2 ^ 1022 ≤ m * 2 ^ (j + 1074).toNat
def loB (m : Nat) (j : Int) : Prop := m * 2 ^ (j + 1074).toNat < CR * 2 ^ 1021
theorem hi_lo {m : Nat} {j : Int} (h : hiB m j) (hlt : m < 2 ^ 53) : -53 ≤ j := lo_of_ge h hlt
theorem lo_hi {m : Nat} {j : Int} (h : loB m j) (h0 : m ≠ 0) : j < 0 := hi_of_lt h h0
theorem up_no {m : Nat} {j : Int} (h : hiB m j) (hj : -1073 ≤ j) : ¬ loB m (j - 1) := Nat.not_lt.2 (up_step h hj)
theorem down_no {m : Nat} {j : Int} (h : loB m j) (hj : -1074 ≤ j) : ¬ hiB m (j + 1) := Nat.not_le.2 (down_step h hj)
theorem mid_of {m : Nat} {j : Int} (h0 : m ≠ 0) (hlt : m < 2 ^ 53) (hj : -1074 ≤ j) (h1 : ¬ hiB m j) (h2 : ¬ loB m j) : j = midJ m := at_mid h0 hlt hj (Nat.not_le.1 h1) (Nat.not_lt.1 h2)
theorem up_ask {x m : Nat} {j : Int} (h : D.read x = D.read (W m j)) (hm : m ≠ 0) (hm2 : m < 2 ^ 53) (h1 : -1074 ≤ j) (h2 : j ≤ 971) :
    (hiB m j ∧ (FloatKind.f64.format.order x 4609047870845172685 = some .gt ∨ FloatKind.f64.format.order x 4609047870845172685 = some .eq)) ∨
    (¬ hiB m j ∧ (FloatKind.f64.format.order x 4609047870845172685 == some .gt) = false ∧ (FloatKind.f64.format.order x 4609047870845172685 == some .eq) = false) := by
  have g := ge_root2 h hm hm2 h1 h2
  by_cases hc : hiB m j
  · refine .inl ⟨hc, ?_⟩
    have := g.2 hc
    rw [Bool.or_eq_true, beq_iff_eq, beq_iff_eq] at this
    exact this
  · refine .inr ⟨hc, ?_⟩
    have := mt g.1 hc
    rw [Bool.not_eq_true, Bool.or_eq_false_iff] at this
    exact this
theorem down_ask {x m : Nat} {j : Int} (h : D.read x = D.read (W m j)) (hm : m ≠ 0) (hm2 : m < 2 ^ 53) (h1 : -1074 ≤ j) (h2 : j ≤ 971) :
    (loB m j ∧ FloatKind.f64.format.order x 4604544271217802189 = some .lt) ∨ (¬ loB m j ∧ (FloatKind.f64.format.order x 4604544271217802189 == some .lt) = false) := by
  have g := lt_root h hm hm2 h1 h2
  by_cases hc : loB m j
  · exact .inl ⟨hc, by have := g.2 hc; rwa [beq_iff_eq] at this⟩
  · exact .inr ⟨hc, by have := mt g.1 hc; rwa [Bool.not_eq_true] at this⟩
theorem half_to {r y m : Nat} {j : Int} (h : D.read r = D.read (W m j)) (h0 : m ≠ 0) (hlt : m < 2 ^ 53) (hh : hiB m j) (hj : j ≤ 971) (hy : can y = fdiv (can r) (can two)) : D.read y = D.read (W m (j - 1)) ∧ -1074 ≤ j - 1 := by
  have h1 := hi_lo hh hlt
  have hn : isNan r = false := by
    obtain ⟨m', p, hr, _⟩ := W_read h0 hlt (show -1074 ≤ j by omega) hj
    rw [nan_rd h]; unfold isNan; rw [hr]; rfl
  have hn2 : isNan (W m (j - 1)) = false := by
    obtain ⟨m', p, hr, _⟩ := W_read h0 hlt (show -1074 ≤ j - 1 by omega) (show j - 1 ≤ 971 by omega)
    unfold isNan; rw [hr]; rfl
  have e : y = W m (j - 1) := by
    refine can_num' ?_ hn2
    rw [hy, can_of_not hn, can_of_not (show isNan two = false by decide +kernel), step_half h h0 hlt (by omega) (by omega)]
  exact ⟨by rw [e], by omega⟩
theorem double_to {r y m : Nat} {j : Int} (h : D.read r = D.read (W m j)) (h0 : m ≠ 0) (hlt : m < 2 ^ 53) (hh : loB m j) (hj : -1074 ≤ j) (hy : can y = fmul (can r) (can two)) : D.read y = D.read (W m (j + 1)) ∧ j + 1 ≤ 971 := by
  have h1 := lo_hi hh h0
  have hn : isNan r = false := by
    obtain ⟨m', p, hr, _⟩ := W_read h0 hlt hj (show j ≤ 971 by omega)
    rw [nan_rd h]; unfold isNan; rw [hr]; rfl
  have hn2 : isNan (W m (j + 1)) = false := by
    obtain ⟨m', p, hr, _⟩ := W_read h0 hlt (show -1074 ≤ j + 1 by omega) (show j + 1 ≤ 971 by omega)
    unfold isNan; rw [hr]; rfl
  have e : y = W m (j + 1) := by
    refine can_num' ?_ hn2
    rw [hy, can_of_not hn, can_of_not (show isNan two = false by decide +kernel), step_double h h0 hlt (by omega) (by omega)]
  exact ⟨by rw [e], by omega⟩

end Go.Proofs.YtddjppaccpioiaaDoor

/- Walks: the isometric latitude of the reference. -/
namespace Go.Proofs.YtddjppaccpioiaaDoor
open Go.RowKit Go.Fp Go.Rel
set_option maxRecDepth 20000

def SpGlI (g : Nat → Nat → Int → Nat) (args : Array Value) (v : Value) : Prop := ∃ (a f : Nat) (l : Int), args = #[globeV a f, .int .i64 l] ∧ isFl (g a f l) v
theorem spGlI_iff (g : Nat → Nat → Int → Nat) (a f : Nat) (l : Int) (v : Value) : SpGlI g #[.agg #[.float .f64 a, .float .f64 f], .int .i64 l] v ↔ isFl (g a f l) v := by
  unfold SpGlI
  exact ⟨fun ⟨_, _, _, h, k⟩ => by simp at h; obtain ⟨⟨rfl, rfl⟩, rfl⟩ := h; exact k, fun h => ⟨_, _, _, rfl, h⟩⟩

end Go.Proofs.YtddjppaccpioiaaDoor

/- Walks: which papers are valid, and which places on them. -/
namespace Go.Proofs.YtddjppaccpioiaaDoor
open Go.RowKit Go.Fp Go.Rel
set_option maxRecDepth 20000

abbrev sMer : ByteArray := { data := #[109, 101, 114, 99, 97, 116, 111, 114] }
abbrev sEqu : ByteArray := { data := #[101, 113, 117, 97, 108] }
abbrev sPol : ByteArray := { data := #[112, 111, 108, 97, 114] }
/-- the kinds of paper -/
inductive KindIs : ByteArray → Nat → Prop
  | mer : KindIs sMer 0
  | equ : KindIs sEqu 1
  | pol : KindIs sPol 2
  | not {s : ByteArray} (h1 : (s.toList == [109, 101, 114, 99, 97, 116, 111, 114]) = false) (h2 : (s.toList == [101, 113, 117, 97, 108]) = false) (h3 : (s.toList == [112, 111, 108, 97, 114]) = false) : KindIs s 3
theorem of_list' {s t : ByteArray} (h : (s.toList == t.toList) = true) : s = t := by
  have h' := eq_of_beq h
  rw [ByteArray.toList_eq, ByteArray.toList_eq] at h'
  obtain ⟨⟨x⟩⟩ := s
  obtain ⟨⟨y⟩⟩ := t
  simpa using h'
theorem kind_some (s : ByteArray) : ∃ n, KindIs s n := by
  cases h1 : (s.toList == [109, 101, 114, 99, 97, 116, 111, 114])
  case true => obtain rfl := of_list' (s := s) (t := sMer) (by rw [ByteArray.toList_eq, ByteArray.toList_eq] at *; exact h1); exact ⟨_, .mer⟩
  cases h2 : (s.toList == [101, 113, 117, 97, 108])
  case true => obtain rfl := of_list' (s := s) (t := sEqu) (by rw [ByteArray.toList_eq, ByteArray.toList_eq] at *; exact h2); exact ⟨_, .equ⟩
  cases h3 : (s.toList == [112, 111, 108, 97, 114])
  case true => obtain rfl := of_list' (s := s) (t := sPol) (by rw [ByteArray.toList_eq, ByteArray.toList_eq] at *; exact h3); exact ⟨_, .pol⟩
  exact ⟨_, .not h1 h2 h3⟩
abbrev paperV (a f : Nat) (s : ByteArray) (mid : Int) (sc : Nat) : Value := .agg #[.float .f64 a, .float .f64 f, .string s, .int .i64 mid, .float .f64 sc]
abbrev placeW (lon lat : Int) : Value := .agg #[.int .i64 lon, .int .i64 lat]
/-- the error's number of a paper: g, whether its globe is one; n, its kind -/
def papP (g : Bool) (n : Nat) (sc : Nat) : Int := if g = true then if n = 3 then 5 else if btw sc 4591870180066957722 4621819117588971520 = true then 0 else 3 else 3

set_option maxHeartbeats 4000000 in
theorem pvalid_c {A : Nat → Addr} {s : ByteArray} {n : Nat} (h : KindIs s n) (a f : Nat) (mid : Int) (sc : Nat) (w : World) (h8 : World8 A w) :
    Calls Tryd.prog 73 #[paperV a f s mid sc] w fun e w' => ∃ v, e = .returned v ∧ ErrOf A (papP (okG a f) n sc) v ∧ Ext w w' := by
  have HV0 : ∀ w, World8 A w → Calls Tryd.prog 38 #[globeV a f] w (ExR (if okG a f then .nilIface else errV (A 2)) w) := fun w h => valid_c a f w h
  generalize okG a f = g at *
  cases g
  · simp only [Bool.false_eq_true, if_false] at HV0
    have HV := Lib.hid HV0
    clear HV0
    go_enter Tryd.func73, Tryd.ntmps73
    go_wp2_with (first
      | (go_at_call 38; go_must (refine (HV.out _ (h8.ext ((Ext.refl w).alloc _))).mono ?_; rintro e w1 ⟨rfl, hx⟩; obtain ⟨hb1, hw⟩ := ext1 hx; have c1 := hb1.cell; clear hx)))
    go_ret
    exact ⟨_, rfl, .shape, hw⟩
  · simp only [if_true] at HV0
    have HV := Lib.hid HV0
    clear HV0
    cases h
    case not =>
      go_enter Tryd.func73, Tryd.ntmps73
      go_wp2_with (first
        | (go_at_call 38; go_must (refine (HV.out _ (h8.ext ((Ext.refl w).alloc _))).mono ?_; rintro e w1 ⟨rfl, hx⟩; obtain ⟨hb1, hw⟩ := ext1 hx; have c1 := hb1.cell; have kg := (h8.ext hw).errs.cell 4 (by decide); clear hx)))
      go_ret
      exact ⟨_, rfl, .name, hw⟩
    all_goals
      have hB : Hid (∀ k, k ≠ 3 → papP true k sc = if btw sc 4591870180066957722 4621819117588971520 = true then 0 else 3) := Lib.hid (fun k hk => by unfold papP; rw [if_pos rfl, if_neg hk])
      go_enter Tryd.func73, Tryd.ntmps73
      go_wp2_with (first
        | (go_at_call 38; go_must (refine (HV.out _ (h8.ext ((Ext.refl w).alloc _))).mono ?_; rintro e w1 ⟨rfl, hx⟩; obtain ⟨hb1, hw⟩ := ext1 hx; have c1 := hb1.cell; have kg := (h8.ext hw).errs.cell 2 (by decide); clear hx)))
      all_goals (first | go_ret | (exfalso; simp_all; done))
      all_goals
        refine ⟨_, rfl, ?_, hw⟩
        rw [hB.out _ (by decide)]
        have hD : FloatKind.f64.format = D := rfl
        simp only [hD] at *
        first
          | (rw [if_pos (by simp_all [btw, fge, fle])]; exact .nil)
          | (rw [if_neg (by simp_all [btw, fge, fle]; rename_i p q; rcases q with ⟨q1, q2⟩ | q <;> simp_all)]; exact .shape)
          | (rw [if_neg (by simp_all [btw, fge, fle])]; exact .shape)

set_option maxHeartbeats 4000000 in
theorem paperError_c {s : ByteArray} {n : Nat} (h : KindIs s n) (a f : Nat) (mid : Int) (sc : Nat) (w : World) :
    Calls Tryd.prog 29 #[paperV a f s mid sc] w (ExR (.int .i64 (papP (okG a f) n sc)) w) := by
  have HG0 : ∀ w, Calls Tryd.prog 54 #[globeV a f] w (ExR (.int .i64 (if okG a f then 0 else 3)) w) := fun w => globeError_c a f w
  have hB := Lib.hid (between_c sc 4591870180066957722 4621819117588971520)
  unfold papP
  generalize okG a f = g at *
  generalize btw sc 4591870180066957722 4621819117588971520 = b at *
  cases g
  · simp only [Bool.false_eq_true, if_false] at HG0
    have HG := Lib.hid HG0
    clear HG0 hB
    go_enter Tryd.func29, Tryd.ntmps29
    go_wp2_with (first
      | (go_at_call 54; go_must (refine (HG.out _).mono ?_; rintro e w1 ⟨rfl, hx⟩; obtain ⟨hb1, hw⟩ := ext1 hx; have c1 := hb1.cell; clear hx)))
    go_ret
    exact ⟨rfl, hw⟩
  · simp only [if_true] at HG0
    have HG := Lib.hid HG0
    clear HG0
    cases h
    case not =>
      clear hB
      go_enter Tryd.func29, Tryd.ntmps29
      go_wp2_with (first
        | (go_at_call 54; go_must (refine (HG.out _).mono ?_; rintro e w1 ⟨rfl, hx⟩; obtain ⟨hb1, hw⟩ := ext1 hx; have c1 := hb1.cell; clear hx)))
      go_ret
      exact ⟨rfl, hw⟩
    all_goals
      cases b
      all_goals
        go_enter Tryd.func29, Tryd.ntmps29
        go_wp2_with (first
          | (go_at_call 54; go_must (refine (HG.out _).mono ?_; rintro e w1 ⟨rfl, hx⟩; obtain ⟨hb1, hw⟩ := ext1 hx; have c1 := hb1.cell; clear hx))
          | (go_at_call 55; go_must (refine (hB.out _).mono ?_; rintro e w2 ⟨rfl, hx⟩; replace hw := hw.trans (bareN hx rfl rfl rfl rfl); clear hx)))
        go_ret
        exact ⟨rfl, hw⟩

/-- the error's number of a place on a paper -/
def chkP (e : Int) (n : Nat) (lat : Int) : Int := if 0 < e then e else if 89000000000 < lat ∨ lat < -89000000000 then 4 else if n = 2 ∧ lat < 0 then 4 else 0
theorem papP_cases (g : Bool) (n sc : Nat) : papP g n sc = 0 ∧ n ≠ 3 ∨ papP g n sc = 3 ∨ papP g n sc = 5 := by
  unfold papP
  split
  · split
    · simp
    · split <;> simp [*]
  · simp

set_option maxHeartbeats 8000000 in
theorem pcheck_c {A : Nat → Addr} {s : ByteArray} {n : Nat} (h : KindIs s n) (a f : Nat) (mid : Int) (sc : Nat) (lon lat : Int) (w : World) (h8 : World8 A w) :
    Calls Tryd.prog 68 #[paperV a f s mid sc, placeW lon lat] w fun e w' => ∃ v, e = .returned v ∧ ErrOf A (chkP (papP (okG a f) n sc) n lat) v ∧ Ext w w' := by
  have hV0 : ∀ w, World8 A w → Calls Tryd.prog 73 #[paperV a f s mid sc] w fun e w' => ∃ v, e = .returned v ∧ ErrOf A (papP (okG a f) n sc) v ∧ Ext w w' := fun w h8 => pvalid_c h a f mid sc w h8
  have hp := papP_cases (okG a f) n sc
  generalize papP (okG a f) n sc = e0 at *
  have HV := Lib.hid hV0
  clear hV0
  rcases hp with ⟨rfl, h3⟩ | hp
  · have HC : Hid (chkP 0 n lat = if 89000000000 < lat ∨ lat < -89000000000 then 4 else if n = 2 ∧ lat < 0 then 4 else 0) := rfl
    cases h
    case not => exact absurd rfl h3
    all_goals
      clear h3
      go_enter Tryd.func68, Tryd.ntmps68
      go_wp2_with (first
        | (go_at_call 73; go_must (refine (HV.out _ (h8.ext (((Ext.refl w).alloc _).alloc _))).mono ?_; rintro e w1 ⟨v, rfl, hv, hx⟩; cases hv; obtain ⟨hb1, hb2, hw⟩ := ext2 hx; have c1 := hb1.cell; have c2 := hb2.cell; have kg := (h8.ext hw).errs.cell 0 (by decide); clear hx)))
      all_goals (first | go_ret | (exfalso; omega))
      all_goals
        first
          | (refine ⟨errV (A 0), rfl, ?_, hw⟩; rw [HC.out, if_pos (by omega)]; exact .range)
          | (refine ⟨errV (A 0), rfl, ?_, hw⟩; rw [HC.out, if_neg (by omega), if_pos (by omega)]; exact .range)
          | (refine ⟨.nilIface, rfl, ?_, hw⟩; rw [HC.out, if_neg (by omega), if_neg (by omega)]; exact .nil)
          | (have h5 : lat < 0 := by omega
             have h6 : ¬ (89000000000 < lat ∨ lat < -89000000000) := by omega
             refine ⟨errV (A 0), rfl, ?_, hw⟩
             rw [HC.out, if_neg h6, if_pos (by simpa using h5)]; exact .range)
  · have HC : Hid (chkP e0 n lat = e0) := by unfold chkP; exact if_pos (by omega)
    have hv' : ∀ v, ErrOf A e0 v → v = errV (A 2) ∧ e0 = 3 ∨ v = errV (A 4) ∧ e0 = 5 := by
      intro v hv
      cases hv <;> simp at hp <;> simp
    have HV' := Lib.hid hv'
    clear hv'
    have hV2 : Hid (∀ w, World8 A w → Calls Tryd.prog 73 #[paperV a f s mid sc] w fun e w' => ∃ p, e = .returned (errV p) ∧ ErrOf A e0 (errV p) ∧ Ext w w') := Lib.hid (fun w h8 => (HV.out w h8).mono (by
      rintro e w' ⟨v, rfl, hv, hx⟩
      rcases HV'.out v hv with ⟨rfl, _⟩ | ⟨rfl, _⟩
      · exact ⟨_, rfl, hv, hx⟩
      · exact ⟨_, rfl, hv, hx⟩))
    clear HV HV' hp
    go_enter Tryd.func68, Tryd.ntmps68
    go_wp2_with (first
      | (go_at_call 73; go_must (refine (hV2.out _ (h8.ext (((Ext.refl w).alloc _).alloc _))).mono ?_; rintro e w1 ⟨p, rfl, hv, hx⟩; obtain ⟨hb1, hb2, hw⟩ := ext2 hx; clear hx)))
    go_ret
    exact ⟨_, rfl, by rw [HC.out]; exact hv, hw⟩

end Go.Proofs.YtddjppaccpioiaaDoor

/- Walks: how far a latitude is from the pole, and how far up it is, on paper: package flat's and the reference's. -/
namespace Go.Proofs.YtddjppaccpioiaaDoor
open Go.RowKit Go.Fp Go.Rel
set_option maxRecDepth 20000

abbrev kOne : Nat := 4607182418800017408
abbrev kTwo : Nat := 4611686018427387904
def poleP (f : Nat) : Nat := expP (fdiv (fadd (fmul (fadd (can kOne) (fsqrt (eccP f))) (can (lnP (fadd (can kOne) (fsqrt (eccP f)))))) (fmul (fsub (can kOne) (fsqrt (eccP f))) (can (lnP (fsub (can kOne) (fsqrt (eccP f))))))) (can kTwo))
def downP (a f sc : Nat) (lat : Int) : Nat := fdiv (fmul (fmul (can kTwo) (fmul (can a) (can sc))) (expP (negC (isoP f lat)))) (poleP f)
def upQ (f : Nat) (lat : Int) : Nat := if D.order (fsqrt (eccP f)) 0 = some .eq then fmul (can kTwo) (can (sinP lat)) else
  fmul (fsub (can kOne) (eccP f)) (fadd (fdiv (can (sinP lat)) (fsub (can kOne) (fmul (fmul (eccP f) (can (sinP lat))) (can (sinP lat))))) (fdiv (lnR (fmul (fsqrt (eccP f)) (can (sinP lat)))) (fmul (can kTwo) (fsqrt (eccP f)))))
def upP (a f sc : Nat) (lat : Int) : Nat := fdiv (fmul (fdiv (can a) (can sc)) (upQ f lat)) (can kTwo)

def SpPap (g : Nat → Nat → Nat → Nat) (args : Array Value) (v : Value) : Prop := ∃ (a f : Nat) (s : ByteArray) (mid : Int) (sc : Nat), args = #[paperV a f s mid sc] ∧ isFl (g a f sc) v
theorem spPap_iff (g : Nat → Nat → Nat → Nat) (a f : Nat) (s : ByteArray) (mid : Int) (sc : Nat) (v : Value) : SpPap g #[paperV a f s mid sc] v ↔ isFl (g a f sc) v := by
  unfold SpPap
  exact ⟨fun ⟨_, _, _, _, _, h, k⟩ => by simp at h; obtain ⟨rfl, rfl, _, _, rfl⟩ := h; exact k, fun h => ⟨_, _, _, _, _, rfl, h⟩⟩
def SpPapI (g : Nat → Nat → Nat → Int → Nat) (args : Array Value) (v : Value) : Prop := ∃ (a f : Nat) (s : ByteArray) (mid : Int) (sc : Nat) (l : Int), args = #[paperV a f s mid sc, .int .i64 l] ∧ isFl (g a f sc l) v
theorem spPapI_iff (g : Nat → Nat → Nat → Int → Nat) (a f : Nat) (s : ByteArray) (mid : Int) (sc : Nat) (l : Int) (v : Value) : SpPapI g #[paperV a f s mid sc, .int .i64 l] v ↔ isFl (g a f sc l) v := by
  unfold SpPapI
  exact ⟨fun ⟨_, _, _, _, _, _, h, k⟩ => by simp at h; obtain ⟨⟨rfl, rfl, _, _, rfl⟩, rfl⟩ := h; exact k, fun h => ⟨_, _, _, _, _, _, rfl, h⟩⟩

/-- what the functions that regions call hand back -/
def FU (g : FuncId) (args : Array Value) (v : Value) : Prop :=
  (g = 44 ∧ SpIntN (fun a => .float .f64 (sinP a)) args v) ∨ (g = 45 ∧ SpIntN (fun a => .float .f64 (cosP a)) args v) ∨
  (g = 77 ∧ SpGl (fun _ f => eccP f) args v) ∨ (g = 17 ∧ SpGl (fun _ f => eccP f) args v) ∨
  (g = 46 ∧ SpOne fsqrt args v) ∨ (g = 35 ∧ SpTri (fun x y z => fsub x (fmul y z)) args v) ∨ (g = 36 ∧ SpTri (fun x y z => fadd x (fmul y z)) args v) ∨
  (g = 74 ∧ SpOne (fun x => can (lnP x)) args v) ∨ (g = 86 ∧ SpOne expP args v) ∨ (g = 71 ∧ SpGlI (fun _ f l => isoP f l) args v) ∨ (g = 63 ∧ SpGlI crossP args v) ∨ (g = 24 ∧ SpGlI crossP args v) ∨ (g = 75 ∧ SpPap (fun _ f _ => poleP f) args v) ∨ (g = 70 ∧ SpPap (fun a _ s => fmul (can a) (can s)) args v) ∨
  (g = 69 ∧ SpPapI downP args v) ∨ (g = 72 ∧ SpPapI upP args v)
theorem lnC_c (x : Nat) (w : World) : Calls Tryd.prog 74 #[.float .f64 x] w (FlR (can (lnP (can x))) w) := by rw [lnP_can]; exact ln_c x w
theorem expC_c (x : Nat) (w : World) : Calls Tryd.prog 86 #[.float .f64 x] w (FlR (expP (can x)) w) := by rw [expP_can]; exact exp_c x w
set_option maxHeartbeats 4000000 in
theorem paperA_c (a f : Nat) (s : ByteArray) (mid : Int) (sc : Nat) (w : World) : Calls Tryd.prog 70 #[paperV a f s mid sc] w (FlR (fmul (can a) (can sc)) w) := by
  go_enter Tryd.func70, Tryd.ntmps70
  go_wp2_with (first | (with_reducible refine upon_fl rfl ?_; intro r n hr))
  go_ret
  refine ⟨_, rfl, by simp only [*, fbin], ?_⟩
  repeat (first | exact Ext.refl _ | refine Ext.drewN ?_ _ | refine Ext.alloc ?_ _)

set_option maxHeartbeats 8000000 in
theorem pole_c (a f : Nat) (s : ByteArray) (mid : Int) (sc : Nat) (w : World) : Calls Tryd.prog 75 #[paperV a f s mid sc] w (FlR (poleP f) w) := by
  unfold poleP
  have tk1 : Hid True := trivial
  go_enter Tryd.func75, Tryd.ntmps75
  go_wp2_with (first
    | (go_at_call 77; go_must (refine (ecc_c a f _).mono ?_; rintro e w2 ⟨r2, rfl, hr2, hx⟩; obtain ⟨hb1, hw⟩ := ext1 hx; clear hx))
    | (go_at_call 46; go_must (refine (sqrt_c _ _).mono ?_; rintro e w2 ⟨r3, rfl, hr3, hx⟩; replace hw := hw.trans (bareN hx rfl rfl rfl rfl); clear hx))
    | (go_at_call 74; clear tk1; go_must (refine (lnC_c _ _).mono ?_; rintro e w2 ⟨l1, rfl, hl1, hx⟩; replace hw := hw.trans (bareN hx rfl rfl rfl rfl); clear hx))
    | (go_at_call 74; go_must (refine (lnC_c _ _).mono ?_; rintro e w2 ⟨l2, rfl, hl2, hx⟩; replace hw := hw.trans (bareN hx rfl rfl rfl rfl); clear hx))
    | (go_at_call 86; go_must (refine (expC_c _ _).mono ?_; rintro e w2 ⟨p1, rfl, hp1, hx⟩; replace hw := hw.trans (bareN hx rfl rfl rfl rfl); clear hx))
    | (with_reducible refine upon_fl rfl ?_; intro r n hr))
  go_ret
  refine ⟨_, rfl, ?_, by repeat (first | exact hw | refine Ext.drewN ?_ _)⟩
  simp only [*, fbin]
set_option maxHeartbeats 8000000 in
theorem down_c (a f : Nat) (s : ByteArray) (mid : Int) (sc : Nat) (lat : Int) (w : World) : Calls Tryd.prog 69 #[paperV a f s mid sc, .int .i64 lat] w (FlR (downP a f sc lat) w) := by
  go_enter Tryd.func69, Tryd.ntmps69
  go_wp2_with fail
  have hb1 := Blk.new w #[.float .f64 a, .float .f64 f, .string s, .int .i64 mid, .float .f64 sc] 72
  have hw1 : Ext w (w.alloc (.cells #[.float .f64 a, .float .f64 f, .string s, .int .i64 mid, .float .f64 sc] 72)) := (Ext.refl w).alloc _
  refine wp_region_all FU (by kernel_rfl) (by kernel_rfl) ?_
  repeat (first
    | (refine wpR_op rfl (fun w9 hw9 K hK => ?_); have k1 := (hb1.ext (bareN hw9 rfl rfl rfl rfl)).cell; go_simp; refine hK _ ?_; clear hK K k1 hw9 w9)
    | (refine wpR_op rfl (fun w9 hw9 K hK => ?_); go_simp; refine rel_call (FlR.call (paperA_c a f s mid sc _)) (fun v => ?_) (fun v hv => ?_); (simp [FU, spPap_iff]); obtain ⟨ra, rfl, hra⟩ := hv; refine hK _ ?_; clear hK K hw9 w9)
    | (refine wpR_op rfl (fun w9 hw9 K hK => ?_); go_simp; refine rel_call (FlR.call (iso_c a f lat _)) (fun v => ?_) (fun v hv => ?_); (simp [FU, spGlI_iff]); obtain ⟨ri, rfl, hri⟩ := hv; refine hK _ ?_; clear hK K hw9 w9)
    | (refine wpR_op rfl (fun w9 hw9 K hK => ?_); go_simp; refine rel_call (FlR.call (expC_c _ _)) (fun v => ?_) (fun v hv => ?_); (simp [FU, spOne_iff]); obtain ⟨rp, rfl, hrp⟩ := hv; refine hK _ ?_; clear hK K hw9 w9)
    | (refine wpR_op rfl (fun w9 hw9 K hK => ?_); go_simp; refine rel_call (FlR.call (pole_c a f s mid sc _)) (fun v => ?_) (fun v hv => ?_); (simp [FU, spPap_iff]); obtain ⟨ro, rfl, hro⟩ := hv; refine hK _ ?_; clear hK K hw9 w9)
    | (refine wpR_op rfl (fun w9 hw9 K hK => ?_); go_simp; refine rel_fl rfl ?_; intro rx hrx; refine hK _ ?_; clear hK K hw9 w9))
  refine wpR_nil ?_
  intro w8 hx8 _
  have hw := hw1.trans (bareN hx8 rfl rfl rfl rfl)
  clear hx8 hb1 hw1
  go_wp2_with (first | (with_reducible refine upon_fl rfl ?_; intro r n hr))
  go_ret
  refine ⟨_, rfl, ?_, by repeat (first | exact hw | refine Ext.drewN ?_ _)⟩
  simp only [downP, *, fbin, neg_can]
set_option maxHeartbeats 8000000 in
theorem up_c (a f : Nat) (s : ByteArray) (mid : Int) (sc : Nat) (lat : Int) (w : World) : Calls Tryd.prog 72 #[paperV a f s mid sc, .int .i64 lat] w (FlR (upP a f sc lat) w) := by
  go_enter Tryd.func72, Tryd.ntmps72
  go_wp2_with fail
  have hb1 := Blk.new w #[.float .f64 a, .float .f64 f, .string s, .int .i64 mid, .float .f64 sc] 72
  have hw1 : Ext w (w.alloc (.cells #[.float .f64 a, .float .f64 f, .string s, .int .i64 mid, .float .f64 sc] 72)) := (Ext.refl w).alloc _
  refine wp_region_all FU (by kernel_rfl) (by kernel_rfl) ?_
  repeat (first
    | (refine wpR_op rfl (fun w9 hw9 K hK => ?_); have k1 := (hb1.ext (bareN hw9 rfl rfl rfl rfl)).cell; go_simp; refine hK _ ?_; clear hK K k1 hw9 w9)
    | (refine wpR_op rfl (fun w9 hw9 K hK => ?_); go_simp; refine rel_call (ExR.call (sin_c _ _)) (fun v => ?_) (fun v hv => ?_); (simp [FU, spIntN_iff]); subst hv; refine hK _ ?_; clear hK K hw9 w9)
    | (refine wpR_op rfl (fun w9 hw9 K hK => ?_); go_simp; refine rel_call (FlR.call (ecc_c a f _)) (fun v => ?_) (fun v hv => ?_); (simp [FU, spGl_iff']); obtain ⟨re, rfl, hre⟩ := hv; refine hK _ ?_; clear hK K hw9 w9)
    | (refine wpR_op rfl (fun w9 hw9 K hK => ?_); go_simp; refine rel_call (FlR.call (sqrt_c _ _)) (fun v => ?_) (fun v hv => ?_); (simp [FU, spOne_iff]); obtain ⟨rq, rfl, hrq⟩ := hv; refine hK _ ?_; clear hK K hw9 w9)
    | (refine wpR_op rfl (fun w9 hw9 K hK => ?_); go_simp; refine rel_fl rfl ?_; intro rx hrx; refine hK _ ?_; clear hK K hw9 w9))
  refine wpR_nil ?_
  intro w8 hx8 _
  have hw := hw1.trans (bareN hx8 rfl rfl rfl rfl)
  replace hb1 := hb1.ext (bareN hx8 rfl rfl rfl rfl)
  clear hx8 hw1
  have kc := hb1.cell
  rw [hre] at hrq
  by_cases hz : D.order (fsqrt (eccP f)) 0 = some .eq
  · have o1 : (FloatKind.f64.format.order rq 0 != some .eq) = false := by
      rw [← hrq, order_canZ] at hz
      have : FloatKind.f64.format.order rq 0 = some .eq := hz
      rw [this]; rfl
    go_wp2_with (first | (with_reducible refine upon_fl rfl ?_; intro r n hr))
    go_ret
    refine ⟨_, rfl, ?_, by repeat (first | exact hw | refine Ext.drewN ?_ _)⟩
    unfold upP upQ
    rw [if_pos hz]
    simp only [*, fbin]
  · have o1 : (FloatKind.f64.format.order rq 0 != some .eq) = true := by
      rw [← hrq, order_canZ] at hz
      have : ¬ FloatKind.f64.format.order rq 0 = some .eq := hz
      simpa using this
    go_wp2_with (first
      | (go_at_call 77; clear kc; go_must (refine (ecc_c a f _).mono ?_; rintro e w2 ⟨r2, rfl, hr2, hx⟩; replace hw := hw.trans (bareN hx rfl rfl rfl rfl); replace hb1 := hb1.ext (bareN hx rfl rfl rfl rfl); clear hx; have kc := hb1.cell))
      | (go_at_call 74; clear kc; go_must (refine (lnC_c _ _).mono ?_; rintro e w2 ⟨r3, rfl, hr3, hx⟩; replace hw := hw.trans (bareN hx rfl rfl rfl rfl); replace hb1 := hb1.ext (bareN hx rfl rfl rfl rfl); clear hx; have kc := hb1.cell))
      | (with_reducible refine upon_fl rfl ?_; intro r n hr))
    go_ret
    refine ⟨_, rfl, ?_, by repeat (first | exact hw | refine Ext.drewN ?_ _)⟩
    unfold upP upQ
    rw [if_neg hz]
    simp only [lnR, *, fbin]
end Go.Proofs.YtddjppaccpioiaaDoor

/- Walks: where a place is on paper: package flat's and the reference's. -/
namespace Go.Proofs.YtddjppaccpioiaaDoor
open Go.RowKit Go.Fp Go.Rel
set_option maxRecDepth 20000

abbrev flatV (x y : Nat) : Value := .agg #[.float .f64 x, .float .f64 y]
def offN (mid lon : Int) : Int := normP lon - normP mid
theorem offN_wrap (mid lon : Int) : IntKind.i64.wrap (normP lon - normP mid) = offN mid lon := IntWalk.i64_in _ ⟨by have := normP_lo lon; have := normP_hi mid; omega, by have := normP_hi lon; have := normP_lo mid; omega⟩
def flatX (n a f sc : Nat) (mid lon lat : Int) : Nat := if n = 2 then fmul (downP a f sc lat) (can (sinP (offN mid lon))) else fmul (fmul (can a) (can sc)) (fmul (can (floatOfInt .f64 (signP (offN mid lon)))) (can 4445950764994258515))
def flatY (n a f sc : Nat) (mid lon lat : Int) : Nat := if n = 2 then negC (fmul (downP a f sc lat) (can (cosP (offN mid lon)))) else if n = 1 then upP a f sc lat else fmul (fmul (can a) (can sc)) (isoP f lat)
def SpNorm (f : Int → Int) (args : Array Value) (v : Value) : Prop := ∃ a : Int, args = #[.int .i64 a] ∧ v = .int .i64 (f a)
theorem spNorm_iff (f : Int → Int) (a : Int) (v : Value) : SpNorm f #[.int .i64 a] v ↔ v = .int .i64 (f a) := by
  unfold SpNorm
  exact ⟨fun ⟨_, h, k⟩ => by simp at h; obtain rfl := h; exact k, fun h => ⟨_, rfl, h⟩⟩
theorem same_call {P : Program} {f : FuncId} {args : Array Value} {v : Value} {W : World} (h : Calls P f args W (fun e w' => e = .returned v ∧ W = w')) : Calls P f args W (fun e w' => ∃ u, e = .returned u ∧ u = v ∧ Ext W w') :=
  h.mono fun _ _ ⟨he, hx⟩ => ⟨_, he, rfl, hx ▸ Ext.refl _⟩

def FlatR (A : Nat → Addr) (k : Int) (X Y : Nat) (w : World) (e : Ending) (w' : World) : Prop := ∃ x y v, e = .returned (.tuple #[flatV x y, v]) ∧ ErrOf A k v ∧ can x = X ∧ can y = Y ∧ Ext w w'
def FlatQ (X Y : Nat) (w : World) (e : Ending) (w' : World) : Prop := ∃ x y, e = .returned (flatV x y) ∧ can x = X ∧ can y = Y ∧ Ext w w'

theorem setCell_other' (w : World) (n i k : Nat) (v : Value) (h : k ≠ n) : (w.setCell ⟨n, i, none⟩ v).heap[k]? = w.heap[k]? := Below.heap_setCell _ _ _ _ h
def FT (g : FuncId) (args : Array Value) (v : Value) : Prop := FU g args v ∨ (g = 42 ∧ SpNorm normP args v) ∨ (g = 21 ∧ SpNorm normP args v) ∨ (g = 41 ∧ SpNorm signP args v) ∨ (g = 56 ∧ SpNorm signP args v)
set_option maxHeartbeats 8000000 in
theorem to_bad {A : Nat → Addr} {s : ByteArray} {n : Nat} (h : KindIs s n) (a f : Nat) (mid : Int) (sc : Nat) (lon lat : Int) (w : World) (h8 : World8 A w) (hk : 0 < chkP (papP (okG a f) n sc) n lat) :
    Calls Tryd.prog 31 #[paperV a f s mid sc, placeW lon lat] w (FlatR A (chkP (papP (okG a f) n sc) n lat) 0 0 w) := by
  have HC0 : ∀ w, World8 A w → Calls Tryd.prog 68 #[paperV a f s mid sc, placeW lon lat] w fun e w' => ∃ p, e = .returned (errV p) ∧ ErrOf A (chkP (papP (okG a f) n sc) n lat) (errV p) ∧ Ext w w' := by
    intro w h8
    refine (pcheck_c h a f mid sc lon lat w h8).mono ?_
    rintro e w' ⟨v, rfl, hv, hx⟩
    generalize chkP (papP (okG a f) n sc) n lat = k at *
    cases hv
    case nil => exact absurd hk (by decide)
    all_goals exact ⟨_, rfl, by constructor, hx⟩
  generalize chkP (papP (okG a f) n sc) n lat = k at *
  have HC := Lib.hid HC0
  clear HC0 hk
  go_enter Tryd.func31, Tryd.ntmps31
  go_wp2_with (first
    | (go_at_call 68; go_must (refine (HC.out _ (h8.ext (by repeat (first | exact Ext.refl _ | refine Ext.alloc ?_ _)))).mono ?_; rintro e w1 ⟨p, rfl, hv, hx⟩; obtain ⟨hb1, hb2, hb3, hw⟩ := ext3 hx; clear hx hb1 hb2))
    | (refine wpList_own rfl 53 _ _ rfl _ _ rfl rfl _ _ hb3 (by kernel_rfl) rfl (by simp [Value.oneCell']) ?_; go_must (intro u bn en sn; replace hw := en _ hw (by omega); have kc := bn.cell; clear sn en hb3)))
  exact bodyPost_ret (v := .tuple #[flatV 0 0, errV p]) (by simp [results, Tryd.results31, go_sem, kc]) rfl ⟨_, _, _, rfl, hv, can0, can0, hw⟩
set_option maxHeartbeats 8000000 in
theorem to_ok {A : Nat → Addr} {s : ByteArray} {n : Nat} (h : KindIs s n) (a f : Nat) (mid : Int) (sc : Nat) (lon lat : Int) (w : World) (h8 : World8 A w) (hk : chkP (papP (okG a f) n sc) n lat = 0) (h3 : n ≠ 3) :
    Calls Tryd.prog 31 #[paperV a f s mid sc, placeW lon lat] w (FlatR A 0 (flatX n a f sc mid lon lat) (flatY n a f sc mid lon lat) w) := by
  have HC0 : ∀ w, World8 A w → Calls Tryd.prog 68 #[paperV a f s mid sc, placeW lon lat] w (ExR .nilIface w) := by
    intro w h8
    refine (pcheck_c h a f mid sc lon lat w h8).mono ?_
    rw [hk]
    rintro e w' ⟨v, rfl, hv, hx⟩
    cases hv
    exact ⟨rfl, hx⟩
  have HC := Lib.hid HC0
  clear HC0 hk
  have W1 := offN_wrap mid lon
  obtain ⟨X, hX⟩ : ∃ X, X = flatX n a f sc mid lon lat := ⟨_, rfl⟩
  obtain ⟨Y, hY⟩ : ∃ Y, Y = flatY n a f sc mid lon lat := ⟨_, rfl⟩
  rw [← hX, ← hY]
  have HX := Lib.hid hX
  have HY := Lib.hid hY
  clear hX hY
  have N1 := normP_lo lon
  have N2 := normP_hi lon
  have N3 := normP_lo mid
  have N4 := normP_hi mid
  cases h
  case not => exact absurd rfl h3
  all_goals
    clear h3
    go_enter Tryd.func31, Tryd.ntmps31
    go_wp2_with (first
      | (go_at_call 68; go_must (refine (HC.out _ (h8.ext (by repeat (first | exact Ext.refl _ | refine Ext.alloc ?_ _)))).mono ?_; rintro e w1 ⟨rfl, hx⟩; obtain ⟨hb1, hb2, hb3, hw⟩ := ext3 hx; have c1 := hb1.cell; have c2 := hb2.cell; clear hx)))
    clear c1 c2
    refine wp_region_all FT (by kernel_rfl) (by kernel_rfl) ?_
    repeat (first
      | (refine wpR_op rfl (fun w9 hw9 K hK => ?_); have k1 := (hb1.ext (bareN hw9 rfl rfl rfl rfl)).cell; have k2 := (hb2.ext (bareN hw9 rfl rfl rfl rfl)).cell; go_simp; refine hK _ ?_; clear hK K k1 k2 hw9 w9)
      | (refine wpR_op rfl (fun w9 hw9 K hK => ?_); go_simp; refine rel_call (same_call (norm_c _ _)) (fun v => ?_) (fun v hv => ?_); (simp [FT, FU, spNorm_iff]); subst hv; refine hK _ ?_; clear hK K hw9 w9))
    refine wpR_nil ?_
    intro w8 hx8 _
    replace hw := hw.trans (bareN hx8 rfl rfl rfl rfl)
    replace hb3 := hb3.ext (bareN hx8 rfl rfl rfl rfl)
    replace hb2 := hb2.ext (bareN hx8 rfl rfl rfl rfl)
    replace hb1 := hb1.ext (bareN hx8 rfl rfl rfl rfl)
    clear hx8
    have c1 := hb1.cell
    have c2 := hb2.cell
    have W1 := offN_wrap mid lon
    go_wp2_with (first
      | (refine wpList_own rfl 53 _ _ rfl _ _ rfl rfl _ _ hb3 (by kernel_rfl) rfl (by simp [Value.oneCell']) ?_; go_must (intro u bn en sn; replace hw := en w (by repeat (first | exact hw | refine Ext.drewN ?_ _)) (by omega); have kc := bn.cell; clear sn en hb3))
      | (go_at_call 69; go_must (refine (down_c a f _ mid sc lat _).mono ?_; rintro e w2 ⟨d1, rfl, hd1, hx⟩; replace hw := hw.trans (bareN hx rfl rfl rfl rfl); replace hb3 := hb3.ext (bareN hx rfl rfl rfl rfl); replace hb2 := hb2.ext (bareN hx rfl rfl rfl rfl); replace hb1 := hb1.ext (bareN hx rfl rfl rfl rfl); clear c1 c2 hx; have c1 := hb1.cell; have c2 := hb2.cell))
      | (refine wpList_own rfl 53 _ _ rfl _ _ rfl rfl _ _ (hb3.same (fun n hn => setCell_other' _ _ _ _ _ hn) (Nat.ne_of_lt hl3)) (by kernel_rfl) rfl (by simp [Value.oneCell']) ?_; go_must (intro u bn en sn; replace hw := en w (Ext.setCell hw (by omega) _) (by omega); have kc := bn.cell; clear sn en hb3))
      | (go_at_call 70; go_must (refine (paperA_c a f _ mid sc _).mono ?_; rintro e w2 ⟨a1, rfl, ha1, hx⟩; replace hw := hw.trans (bareN hx rfl rfl rfl rfl); replace hb3 := hb3.ext (bareN hx rfl rfl rfl rfl); replace hb2 := hb2.ext (bareN hx rfl rfl rfl rfl); replace hb1 := hb1.ext (bareN hx rfl rfl rfl rfl); clear c1 c2 hx; (try clear k1 k2); have c1 := hb1.cell; have c2 := hb2.cell; have k1 : ∀ o i, (w2.alloc o).cell? ⟨w.heap.size, i, none⟩ = #[Value.float .f64 a, Value.float .f64 f, Value.string _, Value.int .i64 mid, Value.float .f64 sc][i]? := (fun o i => (hb1.ext ((Ext.refl w2).alloc o)).cell i); have k2 : ∀ o i, (w2.alloc o).cell? ⟨w.heap.size + 1, i, none⟩ = #[Value.int .i64 lon, Value.int .i64 lat][i]? := (fun o i => (hb2.ext ((Ext.refl w2).alloc o)).cell i)))
      | (go_at_call 72; go_must (refine (up_c a f _ mid sc lat _).mono ?_; rintro e w3 ⟨u1, rfl, hu1, hx⟩; obtain ⟨hbf, hx'⟩ := ext1 (show Ext (w2.alloc _) w3 from bareN hx rfl rfl rfl rfl); have hsz := hw.size; have hl3 := hb3.lt; replace hw := hw.trans hx'; replace hb3 := hb3.ext hx'; clear c1 c2 k1 k2 hx hx' hb1 hb2; generalize w2.heap.size = nb at *; have cf := hbf.cell; have ff := hbf.frozen))
      | (go_at_call 71; go_must (refine (iso_c a f lat _).mono ?_; rintro e w2 ⟨i1, rfl, hi1, hx⟩; replace hw := hw.trans (bareN hx rfl rfl rfl rfl); replace hb3 := hb3.ext (bareN hx rfl rfl rfl rfl); replace hb2 := hb2.ext (bareN hx rfl rfl rfl rfl); replace hb1 := hb1.ext (bareN hx rfl rfl rfl rfl); clear c1 c2 hx; (try clear k1 k2); have c1 := hb1.cell; have c2 := hb2.cell; have k1 : ∀ o i, (w2.alloc o).cell? ⟨w.heap.size, i, none⟩ = #[Value.float .f64 a, Value.float .f64 f, Value.string _, Value.int .i64 mid, Value.float .f64 sc][i]? := (fun o i => (hb1.ext ((Ext.refl w2).alloc o)).cell i); have k2 : ∀ o i, (w2.alloc o).cell? ⟨w.heap.size + 1, i, none⟩ = #[Value.int .i64 lon, Value.int .i64 lat][i]? := (fun o i => (hb2.ext ((Ext.refl w2).alloc o)).cell i)))
      | (go_at_call 44; go_must (refine (sin_c _ _).mono ?_; rintro e w2 ⟨rfl, hx⟩; replace hw := hw.trans (bareN hx rfl rfl rfl rfl); replace hb3 := hb3.ext (bareN hx rfl rfl rfl rfl); replace hb2 := hb2.ext (bareN hx rfl rfl rfl rfl); replace hb1 := hb1.ext (bareN hx rfl rfl rfl rfl); clear c1 c2 hx; (try clear k1 k2); have c1 := hb1.cell; have c2 := hb2.cell; have k1 : ∀ o i, (w2.alloc o).cell? ⟨w.heap.size, i, none⟩ = #[Value.float .f64 a, Value.float .f64 f, Value.string _, Value.int .i64 mid, Value.float .f64 sc][i]? := (fun o i => (hb1.ext ((Ext.refl w2).alloc o)).cell i); have k2 : ∀ o i, (w2.alloc o).cell? ⟨w.heap.size + 1, i, none⟩ = #[Value.int .i64 lon, Value.int .i64 lat][i]? := (fun o i => (hb2.ext ((Ext.refl w2).alloc o)).cell i)))
      | (go_at_call 45; go_must (refine (cos_c _ _).mono ?_; rintro e w2 ⟨rfl, hx⟩; replace hw := hw.trans (bareN hx rfl rfl rfl rfl); replace hb3 := hb3.ext (bareN hx rfl rfl rfl rfl); replace hb2 := hb2.ext (bareN hx rfl rfl rfl rfl); replace hb1 := hb1.ext (bareN hx rfl rfl rfl rfl); clear c1 c2 hx; (try clear k1 k2); have c1 := hb1.cell; have c2 := hb2.cell; have k1 : ∀ o i, (w2.alloc o).cell? ⟨w.heap.size, i, none⟩ = #[Value.float .f64 a, Value.float .f64 f, Value.string _, Value.int .i64 mid, Value.float .f64 sc][i]? := (fun o i => (hb1.ext ((Ext.refl w2).alloc o)).cell i); have k2 : ∀ o i, (w2.alloc o).cell? ⟨w.heap.size + 1, i, none⟩ = #[Value.int .i64 lon, Value.int .i64 lat][i]? := (fun o i => (hb2.ext ((Ext.refl w2).alloc o)).cell i)))
      | (go_at_call 41; go_must (refine (signed_c _ _).mono ?_; rintro e w2 ⟨rfl, hx⟩; replace hw := hw.trans (bareN hx rfl rfl rfl rfl); replace hb3 := hb3.ext (bareN hx rfl rfl rfl rfl); replace hb2 := hb2.ext (bareN hx rfl rfl rfl rfl); replace hb1 := hb1.ext (bareN hx rfl rfl rfl rfl); clear c1 c2 hx; (try clear k1 k2); have c1 := hb1.cell; have c2 := hb2.cell; have k1 : ∀ o i, (w2.alloc o).cell? ⟨w.heap.size, i, none⟩ = #[Value.float .f64 a, Value.float .f64 f, Value.string _, Value.int .i64 mid, Value.float .f64 sc][i]? := (fun o i => (hb1.ext ((Ext.refl w2).alloc o)).cell i); have k2 : ∀ o i, (w2.alloc o).cell? ⟨w.heap.size + 1, i, none⟩ = #[Value.int .i64 lon, Value.int .i64 lat][i]? := (fun o i => (hb2.ext ((Ext.refl w2).alloc o)).cell i)))
      | (with_reducible refine upon_fl rfl ?_; intro r n hr))
  · have hbf : Blk (w2.alloc (.cells #[.float .f64 r, .float .f64 0] 53)) w2.heap.size 53 #[.float .f64 r, .float .f64 0] := Blk.new _ _ _
    have hwf : Ext w (w2.alloc (.cells #[.float .f64 r, .float .f64 0] 53)) := hw.alloc _
    have hsz := hw.size
    have hl3 := hb3.lt
    replace hb1 := hb1.ext ((Ext.refl w2).alloc (.cells #[.float .f64 r, .float .f64 0] 53))
    replace hb2 := hb2.ext ((Ext.refl w2).alloc (.cells #[.float .f64 r, .float .f64 0] 53))
    replace hb3 := hb3.ext ((Ext.refl w2).alloc (.cells #[.float .f64 r, .float .f64 0] 53))
    clear c1 c2 k1 k2
    refine wp_region_head 9 FT (by kernel_rfl) (by kernel_rfl) ?_
    simp only [List.take_succ_cons, List.take_zero, List.drop_succ_cons, List.drop_zero]
    repeat (first
      | (refine wpR_op rfl (fun w9 hw9 K hK => ?_); have k1 := (hb1.ext (bareN hw9 rfl rfl rfl rfl)).cell; have k2 := (hb2.ext (bareN hw9 rfl rfl rfl rfl)).cell; go_simp; refine hK _ ?_; clear hK K k1 k2 hw9 w9)
      | (refine wpR_op rfl (fun w9 hw9 K hK => ?_); go_simp; refine rel_call (FlR.call (paperA_c a f _ mid sc _)) (fun v => ?_) (fun v hv => ?_); (simp [FT, FU, spPap_iff]); obtain ⟨ra, rfl, hra⟩ := hv; refine hK _ ?_; clear hK K hw9 w9)
      | (refine wpR_op rfl (fun w9 hw9 K hK => ?_); go_simp; refine rel_call (FlR.call (iso_c a f lat _)) (fun v => ?_) (fun v hv => ?_); (simp [FT, FU, spGlI_iff]); obtain ⟨ri, rfl, hri⟩ := hv; refine hK _ ?_; clear hK K hw9 w9)
      | (refine wpR_op rfl (fun w9 hw9 K hK => ?_); go_simp; refine rel_fl rfl ?_; intro rx hrx; refine hK _ ?_; clear hK K hw9 w9))
    refine wpR_nil ?_
    intro w8 hx8 _
    replace hw := hwf.trans (bareN hx8 rfl rfl rfl rfl)
    replace hbf := hbf.ext (bareN hx8 rfl rfl rfl rfl)
    replace hb3 := hb3.ext (bareN hx8 rfl rfl rfl rfl)
    clear hb1 hb2 hx8 hwf
    generalize w2.heap.size = nb at *
    have cf := hbf.cell
    have ff := hbf.frozen
    go_wp2_with (first
      | (refine wpList_own rfl 53 _ _ rfl _ _ rfl rfl _ _ (hb3.same (fun n hn => setCell_other' _ _ _ _ _ hn) (Nat.ne_of_lt hl3)) (by kernel_rfl) rfl (by simp [Value.oneCell']) ?_; go_must (intro u bn en sn; replace hw := en w (Ext.setCell hw (by omega) _) (by omega); have kc := bn.cell; clear sn en hb3)))
    refine bodyPost_ret (v := .tuple #[flatV r rx, .nilIface]) (by simp [results, Tryd.results31, go_sem, kc]) rfl ⟨_, _, _, rfl, .nil, ?_, ?_, hw⟩
    · rw [HX.out]; simp [flatX, *, fbin, neg_can]
    · rw [HY.out]; simp [flatY, *, fbin, neg_can]
  · refine bodyPost_ret (v := .tuple #[flatV r u1, .nilIface]) (by simp [results, Tryd.results31, go_sem, kc]) rfl ⟨_, _, _, rfl, .nil, ?_, ?_, hw⟩
    · rw [HX.out]; simp [flatX, *, fbin, neg_can]
    · rw [HY.out]; simp [flatY, *, fbin, neg_can]
  · refine bodyPost_ret (v := .tuple #[flatV _ _, .nilIface]) (by simp [results, Tryd.results31, go_sem, kc]; exact ⟨rfl, rfl⟩) rfl ⟨_, _, _, rfl, .nil, ?_, ?_, hw⟩
    · rw [HX.out]; simp [flatX, *, fbin, neg_can]
    · rw [HY.out]; simp [flatY, *, fbin, neg_can]
end Go.Proofs.YtddjppaccpioiaaDoor

/- Walks: where a place is on paper: the reference's. -/
namespace Go.Proofs.YtddjppaccpioiaaDoor
open Go.RowKit Go.Fp Go.Rel
set_option maxRecDepth 20000

end Go.Proofs.YtddjppaccpioiaaDoor

/- Walks: the paper of the statements, the place that they ask for by its numbers. -/
namespace Go.Proofs.YtddjppaccpioiaaDoor
open Go.RowKit Go.Fp Go.Rel
set_option maxRecDepth 20000

theorem ballX_c (a f : Nat) (w : World) : Calls Tryd.prog 10 #[globeV a f] w (ExR (globeV a f) w) := by
  go_enter Tryd.func10, Tryd.ntmps10
  go_wp2
  exact bodyPost_ret (v := globeV a f) (by simp [results, Tryd.results10, go_sem]) rfl ⟨rfl, by repeat (first | exact Ext.refl _ | refine Ext.drew ?_ | refine Ext.alloc ?_ _ | refine Ext.setCell ?_ (by simp) _)⟩

set_option maxHeartbeats 4000000 in
theorem paper_c (a f : Nat) (s : ByteArray) (mid : Int) (sc : Nat) (w : World) : Calls Tryd.prog 30 #[paperV a f s mid sc] w (ExR (paperV a f s mid sc) w) := by
  go_enter Tryd.func30, Tryd.ntmps30
  go_wp2_with fail
  rename_i KK hKK
  obtain ⟨hb1, hb2, hw⟩ := ext2 (Ext.refl ((w.alloc (.cells #[.float .f64 a, .float .f64 f, .string s, .int .i64 mid, .float .f64 sc] 69)).alloc (.cells #[.float .f64 0, .float .f64 0, .string ByteArray.empty, .int .i64 0, .float .f64 0] 72)))
  refine wp_region_head 10 (fun g args v => g = 10 ∧ args = #[globeV a f] ∧ v = globeV a f) (by kernel_rfl) (by kernel_rfl) ?_
  simp only [List.take_succ_cons, List.take_zero, List.drop_succ_cons, List.drop_zero]
  repeat (first
    | (refine wpR_op rfl (fun w9 hw9 K hK => ?_); have k1 := (hb1.ext (bareN hw9 rfl rfl rfl rfl)).cell; go_simp; refine hK _ ?_; clear hK K k1 hw9 w9)
    | (refine wpR_op rfl (fun w9 hw9 K hK => ?_); go_simp; refine rel_call (ExR.call (ballX_c a f _)) (fun v => ?_) (fun v hv => ?_); (simp); subst hv; refine hK _ ?_; clear hK K hw9 w9))
  refine wpR_nil ?_
  intro w8 hx8 _
  replace hw := hw.trans (bareN hx8 rfl rfl rfl rfl)
  replace hb2 := hb2.ext (bareN hx8 rfl rfl rfl rfl)
  clear hx8 hb1
  refine wpList_own rfl 72 _ _ rfl _ _ rfl rfl _ _ hb2 (by kernel_rfl) rfl (by simp [Value.oneCell']) ?_
  intro u bn en sn
  replace hw := en w hw (by omega)
  have kc := bn.cell
  clear sn en hb2
  go_wp2_with fail
  exact bodyPost_ret (v := paperV a f s mid sc) (by simp [results, Tryd.results30, go_sem, kc]) rfl ⟨rfl, hw⟩

theorem order_canL (x : Nat) {c : Nat} (hc : isNan c = false) : D.order (can x) c = D.order x c := by
  have := order_can x c
  rwa [can_of_not hc] at this
theorem drawn_num : chkP (papP (okG 4617315517961601024 0) 0 4607182418800017408) 0 0 = 0 ∧ D.order (flatX 0 4617315517961601024 0 4607182418800017408 0 90000000000 0) 4620524332696102502 = some .gt ∧ D.order (flatX 0 4617315517961601024 0 4607182418800017408 0 90000000000 0) 4620535591695170929 = some .lt := by decide +kernel
set_option maxHeartbeats 4000000 in
theorem drawn_c {A : Nat → Addr} (w : World) (h8 : World8 A w) : Calls Tryd.prog 28 #[] w (ExR (.bool true) w) := by
  obtain ⟨hk, ho1, ho2⟩ := drawn_num
  have HT0 : ∀ w, World8 A w → Calls Tryd.prog 31 #[paperV 4617315517961601024 0 sMer 0 4607182418800017408, placeW 90000000000 0] w (FlatR A 0 (flatX 0 4617315517961601024 0 4607182418800017408 0 90000000000 0) (flatY 0 4617315517961601024 0 4607182418800017408 0 90000000000 0) w) :=
    fun w h8 => to_ok .mer _ _ _ _ _ _ w h8 hk (by decide)
  clear hk
  generalize flatX 0 4617315517961601024 0 4607182418800017408 0 90000000000 0 = X at *
  generalize flatY 0 4617315517961601024 0 4607182418800017408 0 90000000000 0 = Y at *
  have HT := Lib.hid HT0
  clear HT0
  go_enter Tryd.func28, Tryd.ntmps28
  go_wp2_with (first
    | (go_at_call 31; go_must (refine (HT.out _ (h8.ext (by repeat (first | exact Ext.refl _ | refine Ext.alloc ?_ _)))).mono ?_; rintro e w1 ⟨x, y, v, rfl, he, hx, hy, hw⟩; cases he; have q1 : FloatKind.f64.format.order x 4620524332696102502 = some .gt := ((order_canL x (c := 4620524332696102502) (by decide +kernel)).symm.trans (by rw [hx]; exact ho1)); have q2 : FloatKind.f64.format.order x 4620535591695170929 = some .lt := ((order_canL x (c := 4620535591695170929) (by decide +kernel)).symm.trans (by rw [hx]; exact ho2)); clear ho1 ho2)))
  go_ret
  exact ⟨rfl, hw.alloc _⟩
end Go.Proofs.YtddjppaccpioiaaDoor

/- Several blocks in one fact; what a region leaves that makes a block and stores into it. -/
namespace Go.Rel
open Go.RowKit
/-- several blocks -/
def Bks (w : World) : List (Nat × TypeId × Array Value) → Prop
  | [] => True
  | x :: l => Blk w x.1 x.2.1 x.2.2 ∧ Bks w l
theorem Bks.ext {w w' : World} : ∀ {l : List (Nat × TypeId × Array Value)} (_ : Bks w l) (_ : Ext w w'), Bks w' l
  | [], _, _ => trivial
  | _ :: _, h, hx => ⟨h.1.ext hx, Bks.ext h.2 hx⟩
theorem Blk.keep {w u : World} {n : Nat} {t : TypeId} {c : Array Value} (h : Blk w n t c) (o : Obj) (hs : ∀ k, k ≠ w.heap.size → u.heap[k]? = (w.alloc o).heap[k]?) : Blk u n t c :=
  (h.ext ((Ext.refl w).alloc o)).same hs (by have := h.lt; omega)
theorem Bks.keep {w u : World} : ∀ {l : List (Nat × TypeId × Array Value)} (_ : Bks w l) (o : Obj) (_ : ∀ k, k ≠ w.heap.size → u.heap[k]? = (w.alloc o).heap[k]?), Bks u l
  | [], _, _, _ => trivial
  | _ :: _, h, o, hs => ⟨h.1.keep o hs, Bks.keep h.2 o hs⟩
theorem Bks.same {w u : World} {g : Nat} : ∀ {l : List (Nat × TypeId × Array Value)} (_ : Bks w l) (_ : ∀ k, k ≠ g → u.heap[k]? = w.heap[k]?) (_ : ∀ x ∈ l, x.1 ≠ g), Bks u l
  | [], _, _, _ => trivial
  | x :: _, h, hs, hg => ⟨h.1.same hs (hg x (List.mem_cons_self)), Bks.same h.2 hs (fun y hy => hg y (List.mem_cons_of_mem _ hy))⟩
theorem Bks.cons {w : World} {n : Nat} {t : TypeId} {c : Array Value} {l : List (Nat × TypeId × Array Value)} (h : Blk w n t c) (k : Bks w l) : Bks w ((n, t, c) :: l) := ⟨h, k⟩
theorem Bks.fresh {w : World} : ∀ {l : List (Nat × TypeId × Array Value)} (_ : Bks w l), ∀ x ∈ l, x.1 < w.heap.size
  | [], _, _, hx => by cases hx
  | _ :: _, h, x, hx => by
    cases hx with
    | head => exact h.1.lt
    | tail _ hx => exact Bks.fresh h.2 x hx
end Go.Rel
namespace Go.Proofs.YtddjppaccpioiaaDoor
open Go.RowKit Go.Fp Go.Rel
set_option maxRecDepth 20000

theorem bareX {w w' v : World} (h : Ext v w') (ho : w.os = w'.os) (ht : w.tape = w'.tape) (hp : w.output = w'.output) (hh : w.heap = w'.heap) : Ext v w :=
  ⟨ho.trans h.os, ht.trans h.tape, hp.trans h.output, by rw [hh]; exact h.size, fun k hk => by rw [hh]; exact h.block k hk⟩
theorem blk_set' {w : World} {n i : Nat} {t : TypeId} {cs : Array Value} (v : Value) (h : Blk w n t cs) : Blk (w.setCell ⟨n, i, none⟩ v) n t (cs.setIfInBounds i v) := by
  unfold Blk at *
  simp [World.setCell, Array.getElem?_modify, h]
/-- a block made behind all that is known -/
theorem fin_new {w w3 : World} {l : List (Nat × TypeId × Array Value)} {t : TypeId} {cs : Array Value} (h : Ext w w3) (hl : Bks w3 l) :
    Ext w (w3.alloc (.cells cs t)) ∧ Bks (w3.alloc (.cells cs t)) l ∧ Blk (w3.alloc (.cells cs t)) w3.heap.size t cs :=
  ⟨h.alloc _, hl.ext ((Ext.refl _).alloc _), Blk.new _ _ _⟩
theorem fin_two {w w3 : World} {l : List (Nat × TypeId × Array Value)} {n : Nat} {t : TypeId} {a b u v : Value} (h : Ext w w3) (hl : Bks w3 l) (hz : Blk w3 n t #[a, b]) (hlt : ∀ x ∈ l, x.1 < n) (hw : w.heap.size ≤ n) :
    Ext w ((w3.setCell ⟨n, 0, none⟩ u).setCell ⟨n, 1, none⟩ v) ∧ Bks ((w3.setCell ⟨n, 0, none⟩ u).setCell ⟨n, 1, none⟩ v) l ∧ Blk ((w3.setCell ⟨n, 0, none⟩ u).setCell ⟨n, 1, none⟩ v) n t #[u, v] := by
  have ho : ∀ k, k ≠ n → ((w3.setCell ⟨n, 0, none⟩ u).setCell ⟨n, 1, none⟩ v).heap[k]? = w3.heap[k]? := fun k hk => by
    rw [setCell_other' _ _ _ _ _ hk, setCell_other' _ _ _ _ _ hk]
  refine ⟨(h.setCell hw _).setCell hw _, hl.same ho (fun x hx => Nat.ne_of_lt (hlt x hx)), ?_⟩
  simpa using blk_set' (i := 1) v (blk_set' (i := 0) u hz)
theorem fin_three {w w3 : World} {l : List (Nat × TypeId × Array Value)} {n : Nat} {t : TypeId} {a b c u v x : Value} (h : Ext w w3) (hl : Bks w3 l) (hz : Blk w3 n t #[a, b, c]) (hlt : ∀ x ∈ l, x.1 < n) (hw : w.heap.size ≤ n) :
    Ext w (((w3.setCell ⟨n, 0, none⟩ u).setCell ⟨n, 1, none⟩ v).setCell ⟨n, 2, none⟩ x) ∧ Bks (((w3.setCell ⟨n, 0, none⟩ u).setCell ⟨n, 1, none⟩ v).setCell ⟨n, 2, none⟩ x) l ∧
    Blk (((w3.setCell ⟨n, 0, none⟩ u).setCell ⟨n, 1, none⟩ v).setCell ⟨n, 2, none⟩ x) n t #[u, v, x] := by
  have ho : ∀ k, k ≠ n → (((w3.setCell ⟨n, 0, none⟩ u).setCell ⟨n, 1, none⟩ v).setCell ⟨n, 2, none⟩ x).heap[k]? = w3.heap[k]? := fun k hk => by
    rw [setCell_other' _ _ _ _ _ hk, setCell_other' _ _ _ _ _ hk, setCell_other' _ _ _ _ _ hk]
  refine ⟨((h.setCell hw _).setCell hw _).setCell hw _, hl.same ho (fun x hx => Nat.ne_of_lt (hlt x hx)), ?_⟩
  simpa using blk_set' (i := 2) x (blk_set' (i := 1) v (blk_set' (i := 0) u hz))

end Go.Proofs.YtddjppaccpioiaaDoor

/- The walk of the statement FlatTo. -/
namespace Go.Proofs.YtddjppaccpioiaaDoor
open Go.RowKit Go.Fp Go.Rel
set_option maxRecDepth 20000

def isFlat (X Y : Nat) (v : Value) : Prop := ∃ x y, v = flatV x y ∧ can x = X ∧ can y = Y
theorem FlatQ.call {P : Program} {f : FuncId} {args : Array Value} {X Y : Nat} {W : World} (h : Calls P f args W (FlatQ X Y W)) : Calls P f args W (fun e w' => ∃ v, e = .returned v ∧ isFlat X Y v ∧ Ext W w') :=
  h.mono fun _ _ ⟨x, y, he, hx, hy, hw⟩ => ⟨_, he, ⟨x, y, rfl, hx, hy⟩, hw⟩
/-- the cells of a paper and of a place -/
theorem cellsP {w' : World} {n a f sc : Nat} {s : ByteArray} {mid r t : Int} {tG tP : TypeId} (h : Bks w' [(n, tG, #[Value.float .f64 a, Value.float .f64 f, Value.string s, Value.int .i64 mid, Value.float .f64 sc]), (n + 1, tP, #[Value.int .i64 r, Value.int .i64 t])]) :
    w'.cell? ⟨n, 0, none⟩ = some (.float .f64 a) ∧ w'.cell? ⟨n, 1, none⟩ = some (.float .f64 f) ∧ w'.cell? ⟨n, 2, none⟩ = some (.string s) ∧ w'.cell? ⟨n, 3, none⟩ = some (.int .i64 mid) ∧ w'.cell? ⟨n, 4, none⟩ = some (.float .f64 sc) ∧ w'.cell? ⟨n + 1, 0, none⟩ = some (.int .i64 r) ∧ w'.cell? ⟨n + 1, 1, none⟩ = some (.int .i64 t) :=
  ⟨h.1.cell 0, h.1.cell 1, h.1.cell 2, h.1.cell 3, h.1.cell 4, h.2.1.cell 0, h.2.1.cell 1⟩
theorem chkP_cases (g : Bool) (n sc : Nat) (lat : Int) : 0 < chkP (papP g n sc) n lat ∨ chkP (papP g n sc) n lat = 0 ∧ n ≠ 3 := by
  rcases papP_cases g n sc with ⟨h, h3⟩ | h | h
  · rw [h]
    unfold chkP
    rw [if_neg (by decide)]
    split
    · exact .inl (by decide)
    · split
      · exact .inl (by decide)
      · exact .inr ⟨rfl, h3⟩
  · rw [h]; exact .inl (by unfold chkP; rw [if_pos (by decide)]; decide)
  · rw [h]; exact .inl (by unfold chkP; rw [if_pos (by decide)]; decide)
end Go.Proofs.YtddjppaccpioiaaDoor
