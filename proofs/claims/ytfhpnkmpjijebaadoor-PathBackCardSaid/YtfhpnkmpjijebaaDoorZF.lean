/- Radii across the meridian of two latitudes, and how near they are; roots. -/
import Derived.Test.YtfhpnkmpjijebaaDoorZE
import Derived.Test.YtfhpnkmpjijebaaDoorProg
namespace Go.Fp.Tri
open Go.Fp
set_option maxRecDepth 20000
theorem wn_quot {x c c0 y : Rat} (hc0 : 0 < c0) (h : c0 ≤ c) (hx : Wn (x * c) (c0 * y)) : Wn x y := by
  have hy : 0 ≤ y := by
    have := hx.nonneg
    rcases Rat.le_total (a := 0) (b := y) with hh | hh
    · exact hh
    · have h2 := Rat.mul_le_mul_of_nonneg_left hh (Rat.le_of_lt hc0)
      have h3 : c0 * y = 0 := by grind
      rcases Rat.mul_eq_zero.1 h3 with h4 | h4 <;> grind
  constructor
  · rcases Rat.le_total (a := -y) (b := x) with hh | hh
    · exact hh
    · have h1 := Rat.mul_le_mul_of_nonneg_left (show c0 ≤ c from h) (show 0 ≤ -x by grind)
      have h2 := hx.1
      have h3 : c0 * -x ≤ c0 * y := by grind
      have := Rat.le_of_mul_le_mul_left h3 hc0
      grind
  · rcases Rat.le_total (a := x) (b := y) with hh | hh
    · exact hh
    · have h1 := Rat.mul_le_mul_of_nonneg_left (show c0 ≤ c from h) (show 0 ≤ x by grind)
      have h2 := hx.2
      have h3 : c0 * x ≤ c0 * y := by grind
      exact Rat.le_of_mul_le_mul_left h3 hc0
/-- so near a whole number that it is told -/
theorem whole_le {d k : Int} {x : Rat} (h : (d : Rat) ≤ x) (hx : x < (k : Rat) + 1) : d ≤ k := by
  have h1 : (d : Rat) < ((k + 1 : Int) : Rat) := by push_cast; grind
  have := Rat.intCast_lt_intCast.1 h1
  omega
end Go.Fp.Tri

/- The logarithm's series by its coefficients: how it grows within a binade and into the next. -/
namespace Go.Fp.Tri
open Go.Fp
set_option maxRecDepth 20000
/-! the logarithm's series -/
def PA : List Rat := [0, 2, 0, 2 / 3, 0, 2 / 5, 0, 2 / 7, 0, 2 / 9, 0, 2 / 11, 0, 2 / 13, 0, 2 / 15, 0, 2 / 17, 0, 2 / 19, 0, 2 / 21, 0, 2 / 23]
def PA2 : List Rat := [0, 0, 0, 2 / 3, 0, 2 / 5, 0, 2 / 7, 0, 2 / 9, 0, 2 / 11, 0, 2 / 13, 0, 2 / 15, 0, 2 / 17, 0, 2 / 19, 0, 2 / 21, 0, 2 / 23]
def AA (s : Rat) : Rat := pev PA s
/-- root one half as the program has it; ln 2 in two parts -/
def c0 : Rat := 6369051672525773 / 9007199254740992
def lam : Rat := 2977044471 / 4294967296 + 3691024475790907 / 19342813113834066795298816
def sm (m : Rat) : Rat := (m - 1) / (m + 1)
def InM (m : Rat) : Prop := c0 ≤ m ∧ m ≤ 2 * c0
theorem lam_bd : 693 / 1000 ≤ lam ∧ lam ≤ 694 / 1000 := by unfold lam; constructor <;> grind
def sA : Rat := 101278749433520851537 / 590295810358705651712
def sB : Rat := -202557498867041624747 / 1180591620717411303424
end Go.Fp.Tri

/- errors.As at a sentinel: it misses. plain.Code and the laws' coded at nil and at each sentinel. -/
namespace Go.Proofs.YtfhpnkmpjijebaaDoor
open Go.RowKit Go.Fp Go.Rel Go.Extern.Stop Go.Stop Go.Extern
set_option maxRecDepth 20000

/-- the type value of t -/
abbrev tyV (t : TypeId) : Value := .agg #[.pointer (some ⟨4, t, none⟩)]
end Go.Proofs.YtfhpnkmpjijebaaDoor

/- plain.Code and the laws' coded: at nil, and at each sentinel. -/
namespace Go.Proofs.YtfhpnkmpjijebaaDoor
open Go.RowKit Go.Fp Go.Rel Go.Extern.Stop Go.Stop Go.Extern
set_option maxRecDepth 20000

/-- the eight sentinels, in the order in which plain.Code asks -/
abbrev g8 : List Nat := [9000, 9001, 2, 0, 9002, 1, 9003, 9004]

end Go.Proofs.YtfhpnkmpjijebaaDoor

/- plain.Code and the laws' coded, at an error of a known number. -/
namespace Go.Proofs.YtfhpnkmpjijebaaDoor
open Go.RowKit Go.Fp Go.Rel Go.Extern.Stop Go.Stop Go.Extern
set_option maxRecDepth 20000

/-- the error value of a number: nil, or a sentinel -/
inductive ErrOf (A : Nat → Addr) : Int → Value → Prop
  | nil : ErrOf A 0 .nilIface
  | bound : ErrOf A 2 (errV (A 9001))
  | shape : ErrOf A 3 (errV (A 2))
  | range : ErrOf A 4 (errV (A 0))
  | name : ErrOf A 5 (errV (A 9002))
  | none : ErrOf A 6 (errV (A 1))

/-- what a world holds for the laws: the eight sentinels, errors' own variable -/
structure World8 (A : Nat → Addr) (w : World) : Prop where
  errs : Errs g8 A w
  type : ErrT w
theorem World8.ext {A : Nat → Addr} {w w' : World} (h : World8 A w) (hx : Ext w w') : World8 A w' := ⟨h.errs.ext hx, h.type.ext hx⟩

end Go.Proofs.YtfhpnkmpjijebaaDoor

/- Walks of package grain: Norm, parts, Sin, Cos. -/
namespace Go.Proofs.YtfhpnkmpjijebaaDoor
open Go.RowKit Go.Fp Go.Rel

theorem ret_int {k : IntKind} {a b : Int} (h : a = b) : Ending.returned (.int k a) = .returned (.int k b) := by rw [h]

theorem norm_neg {a : Int} (h : a.tmod 360000000000 < 0) : wrap64 (a.tmod 360000000000 + 360000000000) = normP a := by
  unfold normP
  have h1 : a.tmod 360000000000 = -((-a) % 360000000000) := by
    rcases Int.le_total 0 a with h0 | h0
    · have := Int.tmod_nonneg 360000000000 h0; omega
    · rw [← Int.neg_neg a, Int.neg_tmod, Int.tmod_eq_emod_of_nonneg (by omega)]; simp
  rw [IntWalk.wrap64_in _ (by omega)]
  omega
theorem norm_pos {a : Int} (h : 0 ≤ a.tmod 360000000000) : a.tmod 360000000000 = normP a := by
  unfold normP
  rcases Int.le_total 0 a with h0 | h0
  · exact Int.tmod_eq_emod_of_nonneg h0
  · have h1 : a.tmod 360000000000 = -((-a) % 360000000000) := by
      rw [← Int.neg_neg a, Int.neg_tmod, Int.tmod_eq_emod_of_nonneg (by omega)]; simp
    omega

set_option maxHeartbeats 400000 in
theorem norm_c (a : Int) (w : World) : Calls Tryd.prog 19 #[.int .i64 a] w fun e w' => e = .returned (.int .i64 (normP a)) ∧ w = w' := by
  go_enter Tryd.func19, Tryd.ntmps19
  go_wp2
  · go_ret; exact ⟨ret_int (norm_neg (by assumption)), rfl⟩
  · go_ret; exact ⟨ret_int (norm_pos (by assumption)), rfl⟩
end Go.Proofs.YtfhpnkmpjijebaaDoor

/- Walks of package grain: parts. -/
namespace Go.Proofs.YtfhpnkmpjijebaaDoor
open Go.RowKit Go.Fp Go.Rel

def partsV (a : Int) : Value := .tuple #[.int .i64 (quart (normP a) % 4), .float .f64 (sOf (normP a)), .float .f64 (cOf (normP a))]


set_option maxHeartbeats 1000000 in
theorem parts_c (a : Int) (w : World) : Calls Tryd.prog 38 #[.int .i64 a] w fun e w' => e = .returned (partsV a) ∧ Ext w w' := by
  have hlo := normP_lo a
  have hhi := normP_hi a
  unfold partsV
  have HN := norm_c a
  generalize normP a = b at *
  have hx := (tp_x hlo hhi).1
  have hz := (tp_z hlo hhi).1
  unfold quart at hx
  have hopx : ∀ t w, (binOp .mul t (.float .f64 (floatOfInt .f64 (b - (b + 45000000000) / 90000000000 * 90000000000))) (.float .f64 4445950764994258515)).run Tryd.prog w = .ok (.float .f64 (xOf b)) w := fun t w => run_float_arith w .mul t .f64 _ _ _ hx
  have hopz : ∀ t w, (binOp .mul t (.float .f64 (xOf b)) (.float .f64 (xOf b))).run Tryd.prog w = .ok (.float .f64 (zOf b)) w := fun t w => run_float_arith w .mul t .f64 _ _ _ hz
  have HN' := Lib.hid HN
  clear HN hx hz
  go_enter Tryd.func38, Tryd.ntmps38
  go_wp2_with (first | (go_at_call 19; refine (HN'.out _).mono ?_; rintro e w' ⟨rfl, rfl⟩))
  go_quiet (fail)
  go_wp2_with fail
  go_loopw [3, 4, 9] (fun s c i wr => ∃ k : Nat, k ≤ 7 ∧ i = .int .i64 ((k : Int) - 1) ∧ s = .float .f64 (hor (zOf b) (KK.drop k)) ∧ c = .float .f64 (hor (zOf b) (DD.drop k)) ∧ Ext w wr ∧
      (∀ j, j < 8 → wr.cell? ⟨w.heap.size, j, none⟩ = some (.float .f64 (KK.getD j 0))) ∧ (∀ j, j < 8 → wr.cell? ⟨w.heap.size + 1, j, none⟩ = some (.float .f64 (DD.getD j 0)))) (fun _ _ i _ => (intOf i + 1).toNat)
  case atStart =>
    refine ⟨7, by omega, rfl, rfl, rfl, ?_, ?_, ?_⟩
    · repeat (first | exact Ext.refl _ | refine Ext.drewN ?_ _ | refine Ext.drew ?_ | refine Ext.alloc ?_ _)
    · intro j hj
      match j, hj with
      | 0, _ | 1, _ | 2, _ | 3, _ | 4, _ | 5, _ | 6, _ | 7, _ => go_simp; rfl
    · intro j hj
      match j, hj with
      | 0, _ | 1, _ | 2, _ | 3, _ | 4, _ | 5, _ | 6, _ | 7, _ => go_simp; rfl
  case round =>
    obtain ⟨k, hk, rfl, rfl, rfl, hext, hkk, hdd⟩ := hrel
    match k, hk with
    | 0, _ =>
      clear hkk hdd
      have e0 : (((0 : Nat) : Int) - 1) = -1 := rfl
      rw [e0]
      obtain ⟨⟨hs1, hs2, hs3⟩, _⟩ := tp_s hlo hhi
      obtain ⟨⟨hc1, hc2⟩, _⟩ := tp_c hlo hhi
      have hopa : ∀ t w, (binOp .mul t (.float .f64 (zOf b)) (.float .f64 (hor (zOf b) (KK.drop 0)))).run Tryd.prog w = .ok (.float .f64 (fmul (zOf b) (hor (zOf b) KK))) w := fun t w => run_float_arith w .mul t .f64 _ _ _ hs1
      have hopb : ∀ t w, (binOp .add t (.float .f64 4607182418800017408) (.float .f64 (fmul (zOf b) (hor (zOf b) KK)))).run Tryd.prog w = .ok (.float .f64 (fadd one (fmul (zOf b) (hor (zOf b) KK)))) w := fun t w => run_float_arith w .add t .f64 _ _ _ hs2
      have hopc : ∀ t w, (binOp .mul t (.float .f64 (xOf b)) (.float .f64 (fadd one (fmul (zOf b) (hor (zOf b) KK))))).run Tryd.prog w = .ok (.float .f64 (sOf b)) w := fun t w => run_float_arith w .mul t .f64 _ _ _ hs3
      have hopd : ∀ t w, (binOp .mul t (.float .f64 (zOf b)) (.float .f64 (hor (zOf b) (DD.drop 0)))).run Tryd.prog w = .ok (.float .f64 (fmul (zOf b) (hor (zOf b) DD))) w := fun t w => run_float_arith w .mul t .f64 _ _ _ hc1
      have hope : ∀ t w, (binOp .add t (.float .f64 4607182418800017408) (.float .f64 (fmul (zOf b) (hor (zOf b) DD)))).run Tryd.prog w = .ok (.float .f64 (cOf b)) w := fun t w => run_float_arith w .add t .f64 _ _ _ hc2
      clear hs1 hs2 hs3 hc1 hc2 hopx hopz
      generalize fmul (zOf b) (hor (zOf b) KK) = v1 at *
      generalize fadd one v1 = v2 at *
      generalize fmul (zOf b) (hor (zOf b) DD) = v3 at *
      generalize hor (zOf b) (KK.drop 0) = v4 at *
      generalize hor (zOf b) (DD.drop 0) = v5 at *
      go_wp2_with fail
      go_ret3
      exact ⟨rfl, hext⟩
    | k + 1, hk =>
      have e1 : (((k + 1 : Nat) : Int) - 1) = (k : Int) := by omega
      rw [e1]
      have hc1 := hkk k (by omega)
      have hc2 := hdd k (by omega)
      have hz2 := (tp_z hlo hhi).2
      obtain ⟨m1, f1, f2⟩ := kk_step hz2 k (by omega)
      obtain ⟨m2, f3, f4⟩ := dd_step hz2 k (by omega)
      clear hz2 hopx hopz
      have hopa : ∀ t w, (binOp .mul t (.float .f64 (zOf b)) (.float .f64 (hor (zOf b) (KK.drop (k + 1))))).run Tryd.prog w = .ok (.float .f64 m1) w := fun t w => run_float_arith w .mul t .f64 _ _ _ f1
      have hopb : ∀ t w, (binOp .add t (.float .f64 (KK.getD k 0)) (.float .f64 m1)).run Tryd.prog w = .ok (.float .f64 (hor (zOf b) (KK.drop k))) w := fun t w => run_float_arith w .add t .f64 _ _ _ f2
      have hopc : ∀ t w, (binOp .mul t (.float .f64 (zOf b)) (.float .f64 (hor (zOf b) (DD.drop (k + 1))))).run Tryd.prog w = .ok (.float .f64 m2) w := fun t w => run_float_arith w .mul t .f64 _ _ _ f3
      have hopd : ∀ t w, (binOp .add t (.float .f64 (DD.getD k 0)) (.float .f64 m2)).run Tryd.prog w = .ok (.float .f64 (hor (zOf b) (DD.drop k))) w := fun t w => run_float_arith w .add t .f64 _ _ _ f4
      clear f1 f2 f3 f4
      generalize KK.getD k 0 = c1 at *
      generalize DD.getD k 0 = c2 at *
      have HK := Lib.hid hkk
      have HD := Lib.hid hdd
      clear hkk hdd
      generalize hor (zOf b) (KK.drop (k + 1)) = s1 at *
      generalize hor (zOf b) (DD.drop (k + 1)) = s2 at *
      generalize hs3 : hor (zOf b) (KK.drop k) = s3 at *
      generalize hs4 : hor (zOf b) (DD.drop k) = s4 at *
      have HS3 := Lib.hid hs3
      have HS4 := Lib.hid hs4
      clear hs3 hs4
      go_wp2_with fail
      go_quiet (fail)
      go_wp2_with fail
      go_roundw
      case rel => exact ⟨k, by omega, rfl, by rw [HS3.out], by rw [HS4.out], hext.drewN _, HK.out, HD.out⟩
      case measure => simp [intOf]
end Go.Proofs.YtfhpnkmpjijebaaDoor

/- Walks of package grain: Sin, Cos. -/
namespace Go.Proofs.YtfhpnkmpjijebaaDoor
open Go.RowKit Go.Fp Go.Rel

set_option maxHeartbeats 1000000 in
theorem sin_c (a : Int) (w : World) : Calls Tryd.prog 21 #[.int .i64 a] w (ExR (.float .f64 (sinP a)) w) := by
  unfold sinP sinN
  have HP := parts_c a
  unfold partsV at HP
  have h4 := quart4 (normP a)
  generalize quart (normP a) % 4 = q at *
  generalize sOf (normP a) = s at *
  generalize cOf (normP a) = c at *
  have HP' := Lib.hid HP
  clear HP
  rcases h4 with rfl | rfl | rfl | rfl
  all_goals
    go_enter Tryd.func21, Tryd.ntmps21
    go_wp2_with (first | (go_at_call 38; refine (HP'.out _).mono ?_; rintro e w' ⟨rfl, hx⟩))
    go_ret
    exact ⟨rfl, hx⟩
set_option maxHeartbeats 1000000 in
theorem cos_c (a : Int) (w : World) : Calls Tryd.prog 22 #[.int .i64 a] w (ExR (.float .f64 (cosP a)) w) := by
  unfold cosP cosN
  have HP := parts_c a
  unfold partsV at HP
  have h4 := quart4 (normP a)
  generalize quart (normP a) % 4 = q at *
  generalize sOf (normP a) = s at *
  generalize cOf (normP a) = c at *
  have HP' := Lib.hid HP
  clear HP
  rcases h4 with rfl | rfl | rfl | rfl
  all_goals
    go_enter Tryd.func22, Tryd.ntmps22
    go_wp2_with (first | (go_at_call 38; refine (HP'.out _).mono ?_; rintro e w' ⟨rfl, hx⟩))
    go_ret
    exact ⟨rfl, hx⟩
end Go.Proofs.YtfhpnkmpjijebaaDoor

/- Walks of package grain: finite, Length, Angle; of package math: Sqrt, Abs. -/
namespace Go.Proofs.YtfhpnkmpjijebaaDoor
set_option maxRecDepth 20000
open Go.RowKit Go.Fp Go.Rel

set_option maxHeartbeats 1000000 in
theorem fin_c (x : Nat) (w : World) : Calls Tryd.prog 40 #[.float .f64 x] w (ExR (.bool (finP (can x))) w) := by
  go_enter Tryd.func40, Tryd.ntmps40
  go_wp2_with (first | (with_reducible refine upon_fl rfl ?_; intro r n hr))
  go_ret
  refine ⟨?_, (Ext.refl _).drewN _⟩
  rw [fin_of hr]
  rfl

theorem sqrt_entry : Entry Tryd.prog 39 Extern.MathSqrt.sqrt := fun args w => run_callFunc_extern Tryd.func39 (by kernel_rfl) (by kernel_rfl) (by kernel_rfl) (by kernel_rfl) args w

set_option maxHeartbeats 1000000 in
theorem sqrt_c (x : Nat) (w : World) : Calls Tryd.prog 23 #[.float .f64 x] w (FlR (fsqrt (can x)) w) := by
  go_enter Tryd.func23, Tryd.ntmps23
  go_wp2_with (first | (refine upon_sqrt sqrt_entry ?_; intro r n hr))
  go_ret
  exact ⟨_, rfl, hr, (Ext.refl _).drewN _⟩

theorem bits_entry : Entry Tryd.prog 48 Extern.MathFloatBits.float64bits := fun args w => run_callFunc_extern Tryd.func48 (by kernel_rfl) (by kernel_rfl) (by kernel_rfl) (by kernel_rfl) args w
theorem frombits_entry : Entry Tryd.prog 47 Extern.MathFloatBits.float64frombits := fun args w => run_callFunc_extern Tryd.func47 (by kernel_rfl) (by kernel_rfl) (by kernel_rfl) (by kernel_rfl) args w

set_option maxHeartbeats 1000000 in
theorem abs_c (x : Nat) (w : World) : Calls Tryd.prog 41 #[.float .f64 x] w fun e w' => e = .returned (.float .f64 (absW x)) ∧ w = w' := by
  have h1 : ∀ (x : Nat) (w : World), (callFunc 48 #[.float .f64 x]).run Tryd.prog w = .ok (.value (.int .u64 x)) w := fun x w => bits_entry _ w
  have h2 : ∀ (n : Int) (w : World), (callFunc 47 #[.int .u64 n]).run Tryd.prog w = .ok (.value (.float .f64 n.toNat)) w := fun n w => frombits_entry _ w
  go_enter Tryd.func41, Tryd.ntmps41
  go_wp2
  go_ret
  refine ⟨?_, rfl⟩
  have := abs_bits x
  unfold absW
  rw [← this]
  rfl
end Go.Proofs.YtfhpnkmpjijebaaDoor

/- Walks of package mercatorref1: NormOf, series. -/
namespace Go.Proofs.YtfhpnkmpjijebaaDoor
set_option maxRecDepth 20000
open Go.RowKit Go.Fp Go.Rel

set_option maxHeartbeats 400000 in
theorem normOf_c (a : Int) (w : World) : Calls Tryd.prog 44 #[.int .i64 a] w fun e w' => e = .returned (.int .i64 (normP a)) ∧ w = w' := by
  go_enter Tryd.func44, Tryd.ntmps44
  go_wp2
  · go_ret; exact ⟨ret_int (norm_neg (by assumption)), rfl⟩
  · go_ret; exact ⟨ret_int (norm_pos (by assumption)), rfl⟩

theorem hv_of {z s m : Nat} (h : D.mul z s = some m) : fmul z s = m := by unfold fmul opt; rw [h]; rfl

set_option maxHeartbeats 4000000 in
theorem series_sin (z : Nat) (hz : Tp 7 z) (w : World) : Calls Tryd.prog 45 #[.float .f64 z, .int .i64 1] w fun e w' => e = .returned (.float .f64 (fadd one (fmul z (hor z KK)))) ∧ w = w' := by
  have hfin : D.add one (fmul z (hor z KK)) = some (fadd one (fmul z (hor z KK))) := by
    have hh : Tp 80 (hor z KK) := (tp_hor hz KK (by decide) (by decide) tp_KK).mono (by decide)
    have hm := tp_mul hz hh (by omega) (by omega)
    exact (tp_add (a := 88) (tp_one.mono (by omega)) (hm.2.mono (by omega)) (by omega) (by omega)).1
  generalize fadd one (fmul z (hor z KK)) = fin at *
  have Hfin := Lib.hid hfin
  have HZ := Lib.hid hz
  clear hfin hz
  go_enter Tryd.func45, Tryd.ntmps45
  go_wp2_with fail
  go_loop [5, 6] (fun s k => ∃ k0 : Nat, k0 ≤ 8 ∧ k = .int .i64 (k0 : Int) ∧ s = .float .f64 (hor z (KK.drop k0))) (fun _ k => (intOf k).toNat)
  case atStart => exact ⟨8, by omega, rfl, rfl⟩
  case round =>
    obtain ⟨k, hk, rfl, rfl⟩ := hrel
    have hv := kk_val HZ.out k hk
    have hop : ∀ t w, (binOp .mul t (.float .f64 z) (.float .f64 (hor z (KK.drop k)))).run Tryd.prog w = .ok (.float .f64 (fmul z (hor z (KK.drop k)))) w := fun t w => run_float_arith w .mul t .f64 _ _ _ hv
    clear hv
    by_cases hk0 : k = 0
    · subst hk0
      have hf : ∀ t w, (binOp .add t (.float .f64 4607182418800017408) (.float .f64 (fmul z (hor z (KK.drop 0))))).run Tryd.prog w = .ok (.float .f64 fin) w := fun t w => run_float_arith w .add t .f64 _ _ _ Hfin.out
      generalize fmul z (hor z (KK.drop 0)) = v1 at *
      generalize hor z (KK.drop 0) = v2 at *
      go_wp2_with fail
      go_ret
      exact ⟨rfl, rfl⟩
    · have hk1 : 1 ≤ k := by omega
      have hd := fac_KK k hk1 hk
      have hg : 1 ≤ (k : Int) := by omega
      have hg8 : (k : Int) ≤ 8 := by omega
      go_wp2_with fail
      go_loop [7, 8] (fun f i => ∃ j : Nat, 2 ≤ j ∧ j ≤ 2 * k + 1 + 1 ∧ i = .int .i64 (j : Int) ∧ f = .float .f64 (facW (j - 1))) (fun _ i => 2 * k + 1 + 1 - (intOf i).toNat)
      case atStart => exact ⟨2, by omega, by omega, rfl, rfl⟩
      case round =>
        obtain ⟨j, hj1, hj2, rfl, rfl⟩ := hrel
        by_cases hj : j ≤ 2 * k + 1
        · have hs := fac_step j hj1 (by omega)
          have hopf : ∀ t w, (binOp .mul t (.float .f64 (facW (j - 1))) (.float .f64 (floatOfInt .f64 (j : Int)))).run Tryd.prog w = .ok (.float .f64 (facW j)) w := fun t w => run_float_arith w .mul t .f64 _ _ _ hs
          clear hs
          have hjj : (j : Int) ≤ 2 * (k : Int) + 1 := by omega
          go_wp2_with fail
          go_round
          case rel => exact ⟨j + 1, by omega, by omega, by go_num, rfl⟩
          case measure => simp only [intOf]; omega
        · have hj3 : j = 2 * k + 1 + 1 := by omega
          have hjj : ¬ (j : Int) ≤ 2 * (k : Int) + 1 := by omega
          have ef : facW (j - 1) = facW (2 * k + 1) := by rw [hj3]; rfl
          rw [ef]
          clear ef hj3
          have HD : Hid (D.div one (facS k 1) = some (KK.getD (k - 1) 0)) := hd
          clear hd
          by_cases hp : k % 2 = 1
          · have hpi : ((k : Int) % 2 == 1) = true := by rw [beq_iff_eq]; omega
            have hd := HD.out
            unfold facS at hd
            rw [if_pos hp] at hd
            have hopd : ∀ t w, (binOp .quo t (.float .f64 4607182418800017408) (.float .f64 (Op.negFloat .f64 (facW (2 * k + 1))))).run Tryd.prog w = .ok (.float .f64 (KK.getD (k - 1) 0)) w := fun t w => run_float_arith w .quo t .f64 _ _ _ hd
            have hk8 : ((k : Int) == 8) = false := by rw [beq_eq_false_iff_ne]; omega
            obtain ⟨m, f1, f2⟩ := kk_step HZ.out (k - 1) (by omega)
            rw [show k - 1 + 1 = k by omega] at f1
            have f3 := hv_of f1
            have hopa : ∀ t w, (binOp .add t (.float .f64 (KK.getD (k - 1) 0)) (.float .f64 (fmul z (hor z (KK.drop k))))).run Tryd.prog w = .ok (.float .f64 (hor z (KK.drop (k - 1)))) w := fun t w => run_float_arith w .add t .f64 _ _ _ (by rw [f3]; exact f2)
            clear hd f1 f2 f3
            generalize facW (2 * k + 1) = fw at *
            generalize KK.getD (k - 1) 0 = kc at *
            generalize fmul z (hor z (KK.drop k)) = zs at *
            generalize hor z (KK.drop k) = s0 at *
            generalize hs1 : hor z (KK.drop (k - 1)) = s1 at *
            have HS := Lib.hid hs1
            clear hs1 HD
            go_wp2_with fail
            go_round
            case rel => exact ⟨k - 1, by omega, by go_num, by rw [HS.out]⟩
            case measure => simp only [intOf]; omega
          · have hpi : ((k : Int) % 2 == 1) = false := by rw [beq_eq_false_iff_ne]; omega
            have hd := HD.out
            unfold facS at hd
            rw [if_neg hp] at hd
            have hopd : ∀ t w, (binOp .quo t (.float .f64 4607182418800017408) (.float .f64 (facW (2 * k + 1)))).run Tryd.prog w = .ok (.float .f64 (KK.getD (k - 1) 0)) w := fun t w => run_float_arith w .quo t .f64 _ _ _ hd
            clear hd
            by_cases h8 : k = 8
            · subst h8
              generalize fmul z (hor z (KK.drop 8)) = zs at *
              generalize hor z (KK.drop 8) = s0 at *
              generalize facW (2 * 8 + 1) = fw at *
              generalize hkc : KK.getD (8 - 1) 0 = kc at *
              have HS := Lib.hid hkc
              clear hkc HD
              go_wp2_with fail
              go_round
              case rel => exact ⟨7, by omega, by go_num, by rw [← HS.out]; rfl⟩
              case measure => simp only [intOf]; omega
            · have hk8 : ((k : Int) == 8) = false := by rw [beq_eq_false_iff_ne]; omega
              obtain ⟨m, f1, f2⟩ := kk_step HZ.out (k - 1) (by omega)
              rw [show k - 1 + 1 = k by omega] at f1
              have f3 := hv_of f1
              have hopa : ∀ t w, (binOp .add t (.float .f64 (KK.getD (k - 1) 0)) (.float .f64 (fmul z (hor z (KK.drop k))))).run Tryd.prog w = .ok (.float .f64 (hor z (KK.drop (k - 1)))) w := fun t w => run_float_arith w .add t .f64 _ _ _ (by rw [f3]; exact f2)
              clear f1 f2 f3
              generalize facW (2 * k + 1) = fw at *
              generalize KK.getD (k - 1) 0 = kc at *
              generalize fmul z (hor z (KK.drop k)) = zs at *
              generalize hor z (KK.drop k) = s0 at *
              generalize hs1 : hor z (KK.drop (k - 1)) = s1 at *
              have HS := Lib.hid hs1
              clear hs1 HD
              go_wp2_with fail
              go_round
              case rel => exact ⟨k - 1, by omega, by go_num, by rw [HS.out]⟩
              case measure => simp only [intOf]; omega

set_option maxHeartbeats 4000000 in
theorem series_cos (z : Nat) (hz : Tp 7 z) (w : World) : Calls Tryd.prog 45 #[.float .f64 z, .int .i64 0] w fun e w' => e = .returned (.float .f64 (fadd one (fmul z (hor z DD)))) ∧ w = w' := by
  have hfin : D.add one (fmul z (hor z DD)) = some (fadd one (fmul z (hor z DD))) := by
    have hh : Tp 80 (hor z DD) := (tp_hor hz DD (by decide) (by decide) tp_DD).mono (by decide)
    have hm := tp_mul hz hh (by omega) (by omega)
    exact (tp_add (a := 88) (tp_one.mono (by omega)) (hm.2.mono (by omega)) (by omega) (by omega)).1
  generalize fadd one (fmul z (hor z DD)) = fin at *
  have Hfin := Lib.hid hfin
  have HZ := Lib.hid hz
  clear hfin hz
  go_enter Tryd.func45, Tryd.ntmps45
  go_wp2_with fail
  go_loop [5, 6] (fun s k => ∃ k0 : Nat, k0 ≤ 8 ∧ k = .int .i64 (k0 : Int) ∧ s = .float .f64 (hor z (DD.drop k0))) (fun _ k => (intOf k).toNat)
  case atStart => exact ⟨8, by omega, rfl, rfl⟩
  case round =>
    obtain ⟨k, hk, rfl, rfl⟩ := hrel
    have hv := dd_val HZ.out k hk
    have hop : ∀ t w, (binOp .mul t (.float .f64 z) (.float .f64 (hor z (DD.drop k)))).run Tryd.prog w = .ok (.float .f64 (fmul z (hor z (DD.drop k)))) w := fun t w => run_float_arith w .mul t .f64 _ _ _ hv
    clear hv
    by_cases hk0 : k = 0
    · subst hk0
      have hf : ∀ t w, (binOp .add t (.float .f64 4607182418800017408) (.float .f64 (fmul z (hor z (DD.drop 0))))).run Tryd.prog w = .ok (.float .f64 fin) w := fun t w => run_float_arith w .add t .f64 _ _ _ Hfin.out
      generalize fmul z (hor z (DD.drop 0)) = v1 at *
      generalize hor z (DD.drop 0) = v2 at *
      go_wp2_with fail
      go_ret
      exact ⟨rfl, rfl⟩
    · have hk1 : 1 ≤ k := by omega
      have hd := fac_DD k hk1 hk
      have hg : 1 ≤ (k : Int) := by omega
      have hg8 : (k : Int) ≤ 8 := by omega
      go_wp2_with fail
      go_loop [7, 8] (fun f i => ∃ j : Nat, 2 ≤ j ∧ j ≤ 2 * k + 0 + 1 ∧ i = .int .i64 (j : Int) ∧ f = .float .f64 (facW (j - 1))) (fun _ i => 2 * k + 0 + 1 - (intOf i).toNat)
      case atStart => exact ⟨2, by omega, by omega, rfl, rfl⟩
      case round =>
        obtain ⟨j, hj1, hj2, rfl, rfl⟩ := hrel
        by_cases hj : j ≤ 2 * k + 0
        · have hs := fac_step j hj1 (by omega)
          have hopf : ∀ t w, (binOp .mul t (.float .f64 (facW (j - 1))) (.float .f64 (floatOfInt .f64 (j : Int)))).run Tryd.prog w = .ok (.float .f64 (facW j)) w := fun t w => run_float_arith w .mul t .f64 _ _ _ hs
          clear hs
          have hjj : (j : Int) ≤ 2 * (k : Int) + 0 := by omega
          go_wp2_with fail
          go_round
          case rel => exact ⟨j + 1, by omega, by omega, by go_num, rfl⟩
          case measure => simp only [intOf]; omega
        · have hj3 : j = 2 * k + 0 + 1 := by omega
          have hjj : ¬ (j : Int) ≤ 2 * (k : Int) + 0 := by omega
          have ef : facW (j - 1) = facW (2 * k + 0) := by rw [hj3]; rfl
          rw [ef]
          clear ef hj3
          have HD : Hid (D.div one (facS k 0) = some (DD.getD (k - 1) 0)) := hd
          clear hd
          by_cases hp : k % 2 = 1
          · have hpi : ((k : Int) % 2 == 1) = true := by rw [beq_iff_eq]; omega
            have hd := HD.out
            unfold facS at hd
            rw [if_pos hp] at hd
            have hopd : ∀ t w, (binOp .quo t (.float .f64 4607182418800017408) (.float .f64 (Op.negFloat .f64 (facW (2 * k + 0))))).run Tryd.prog w = .ok (.float .f64 (DD.getD (k - 1) 0)) w := fun t w => run_float_arith w .quo t .f64 _ _ _ hd
            have hk8 : ((k : Int) == 8) = false := by rw [beq_eq_false_iff_ne]; omega
            obtain ⟨m, f1, f2⟩ := dd_step HZ.out (k - 1) (by omega)
            rw [show k - 1 + 1 = k by omega] at f1
            have f3 := hv_of f1
            have hopa : ∀ t w, (binOp .add t (.float .f64 (DD.getD (k - 1) 0)) (.float .f64 (fmul z (hor z (DD.drop k))))).run Tryd.prog w = .ok (.float .f64 (hor z (DD.drop (k - 1)))) w := fun t w => run_float_arith w .add t .f64 _ _ _ (by rw [f3]; exact f2)
            clear hd f1 f2 f3
            generalize facW (2 * k + 0) = fw at *
            generalize DD.getD (k - 1) 0 = kc at *
            generalize fmul z (hor z (DD.drop k)) = zs at *
            generalize hor z (DD.drop k) = s0 at *
            generalize hs1 : hor z (DD.drop (k - 1)) = s1 at *
            have HS := Lib.hid hs1
            clear hs1 HD
            go_wp2_with fail
            go_round
            case rel => exact ⟨k - 1, by omega, by go_num, by rw [HS.out]⟩
            case measure => simp only [intOf]; omega
          · have hpi : ((k : Int) % 2 == 1) = false := by rw [beq_eq_false_iff_ne]; omega
            have hd := HD.out
            unfold facS at hd
            rw [if_neg hp] at hd
            have hopd : ∀ t w, (binOp .quo t (.float .f64 4607182418800017408) (.float .f64 (facW (2 * k + 0)))).run Tryd.prog w = .ok (.float .f64 (DD.getD (k - 1) 0)) w := fun t w => run_float_arith w .quo t .f64 _ _ _ hd
            clear hd
            by_cases h8 : k = 8
            · subst h8
              generalize fmul z (hor z (DD.drop 8)) = zs at *
              generalize hor z (DD.drop 8) = s0 at *
              generalize facW (2 * 8 + 0) = fw at *
              generalize hkc : DD.getD (8 - 1) 0 = kc at *
              have HS := Lib.hid hkc
              clear hkc HD
              go_wp2_with fail
              go_round
              case rel => exact ⟨7, by omega, by go_num, by rw [← HS.out]; rfl⟩
              case measure => simp only [intOf]; omega
            · have hk8 : ((k : Int) == 8) = false := by rw [beq_eq_false_iff_ne]; omega
              obtain ⟨m, f1, f2⟩ := dd_step HZ.out (k - 1) (by omega)
              rw [show k - 1 + 1 = k by omega] at f1
              have f3 := hv_of f1
              have hopa : ∀ t w, (binOp .add t (.float .f64 (DD.getD (k - 1) 0)) (.float .f64 (fmul z (hor z (DD.drop k))))).run Tryd.prog w = .ok (.float .f64 (hor z (DD.drop (k - 1)))) w := fun t w => run_float_arith w .add t .f64 _ _ _ (by rw [f3]; exact f2)
              clear f1 f2 f3
              generalize facW (2 * k + 0) = fw at *
              generalize DD.getD (k - 1) 0 = kc at *
              generalize fmul z (hor z (DD.drop k)) = zs at *
              generalize hor z (DD.drop k) = s0 at *
              generalize hs1 : hor z (DD.drop (k - 1)) = s1 at *
              have HS := Lib.hid hs1
              clear hs1 HD
              go_wp2_with fail
              go_round
              case rel => exact ⟨k - 1, by omega, by go_num, by rw [HS.out]⟩
              case measure => simp only [intOf]; omega
end Go.Proofs.YtfhpnkmpjijebaaDoor
