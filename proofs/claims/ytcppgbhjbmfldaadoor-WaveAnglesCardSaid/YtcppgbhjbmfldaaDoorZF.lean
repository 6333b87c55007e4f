/- Walks of package math: IsInf, IsNaN, normalize, Copysign, Inf. -/
import Derived.Test.YtcppgbhjbmfldaaDoorZE
import Derived.IntWalk
import Derived.LoopN
namespace Go.Proofs.YtcppgbhjbmfldaaDoor
open Go.RowKit Go.Fp Go.Rel
set_option maxRecDepth 20000

abbrev cMax : Nat := 9218868437227405311
/-- an infinity -/
def infP (x : Nat) : Bool := D.order (absW x) cMax == some .gt
set_option maxHeartbeats 400000 in
theorem isInf_c (x : Nat) (w : World) : Calls Tryd.prog 75 #[.float .f64 x, .int .i64 0] w fun e w' => e = .returned (.bool (infP x)) ∧ w = w' := by
  go_enter Tryd.func75, Tryd.ntmps75
  go_wp2_with (first | (go_at_call 58; refine (abs_c _ _).mono ?_; rintro e w1 ⟨rfl, rfl⟩))
  go_ret
  exact ⟨rfl, rfl⟩
set_option maxHeartbeats 400000 in
theorem isNaN_c (x : Nat) (w : World) : Calls Tryd.prog 83 #[.float .f64 x] w fun e w' => e = .returned (.bool (isNan x)) ∧ w = w' := by
  have hd : (!(FloatKind.f64.format.order x x == some Ordering.eq)) = isNan x := by
    cases h : isNan x with
    | true => rw [show FloatKind.f64.format.order x x = none from order_l _ _ h]; rfl
    | false =>
      have : FloatKind.f64.format.order x x = some .eq := by
        have h2 := h
        unfold isNan at h2
        show D.order x x = some .eq
        unfold Ieee.Format.order
        cases e : D.read x with
        | nan s t => rw [e] at h2; cases h2
        | infinity s => simp [Ieee.Datum.order]
        | number s m i => simp [Ieee.Datum.order]
      rw [this]; rfl
  generalize isNan x = b at *
  have HD := Lib.hid hd
  clear hd
  go_enter Tryd.func83, Tryd.ntmps83
  go_wp2
  go_ret
  refine ⟨?_, rfl⟩
  rw [← HD.out]
  rfl

/-- a number made greater, if it is small, and by how many places -/
def normP2 (x : Nat) : Nat × Int := if D.order (absW x) 4503599627370496 = some .lt then (fmul x 4841369599423283200, -52) else (x, 0)
theorem can_fix' {r X : Nat} (h : can r = can X) (hn : isNan X = false) : r = X := by
  have hr : isNan r = false := by rw [← isNan_can, h, isNan_can]; exact hn
  rw [can_of_not hr, can_of_not hn] at h; exact h
set_option maxHeartbeats 400000 in
theorem normalize_c (x : Nat) (w : World) (hn : isNan (normP2 x).1 = false) : Calls Tryd.prog 85 #[.float .f64 x] w (ExR (.tuple #[.float .f64 (normP2 x).1, .int .i64 (normP2 x).2]) w) := by
  have HN := Lib.hid hn
  clear hn
  go_enter Tryd.func85, Tryd.ntmps85
  go_wp2_with (first
    | (go_at_call 58; refine (abs_c _ _).mono ?_; rintro e w1 ⟨rfl, rfl⟩)
    | (with_reducible refine upon_fl rfl ?_; intro r n hr))
  · rename_i hc
    have hc' : FloatKind.f64.format.order (absW x) 4503599627370496 = some .lt := by simpa using hc
    have e : normP2 x = (fmul x 4841369599423283200, -52) := if_pos hc'
    have hn := HN.out
    rw [e] at hn ⊢
    have : r = fmul x 4841369599423283200 := can_fix' (by rw [hr, can_fmul]; simp only [fbin, fmul_can]) hn
    subst this
    go_ret2
    exact ⟨rfl, (Ext.refl _).drewN _⟩
  · rename_i hc
    have hc' : ¬ FloatKind.f64.format.order (absW x) 4503599627370496 = some .lt := by simpa using hc
    have e : normP2 x = (x, 0) := if_neg hc'
    rw [e]
    go_ret2
    exact ⟨rfl, Ext.refl _⟩
end Go.Proofs.YtcppgbhjbmfldaaDoor

/- Walk: math.Ldexp. -/
namespace Go.Proofs.YtcppgbhjbmfldaaDoor
open Go.RowKit Go.Fp Go.Rel
set_option maxRecDepth 20000

def ldK (x1 : Nat) (e1 k : Int) : Int := wrap64 (wrap64 (k + e1) + wrap64 (bits BinOp.and IntKind.i64 (wrap64 ((x1 : Int) / 4503599627370496)) 2047 - 1023))
def ldW (x1 : Nat) (K : Int) : Nat := (bits BinOp.or IntKind.u64 (bits BinOp.andNot IntKind.u64 (x1 : Int) 9218868437227405312) ((K + 1023) * 4503599627370496)).toNat
def cpW (x : Nat) : Nat := (bits BinOp.or IntKind.u64 (bits BinOp.andNot IntKind.u64 0 9223372036854775808) (bits BinOp.and IntKind.u64 (x : Int) 9223372036854775808)).toNat
/-- a number times a power of two -/
def ldexpP (x : Nat) (k : Int) : Nat :=
  if D.order x 0 = some .eq then x else if infP x = true then x else if isNan x = true then x else
  if ldK (normP2 x).1 (normP2 x).2 k < -1075 then cpW (normP2 x).1
  else if 1023 < ldK (normP2 x).1 (normP2 x).2 k then (if D.order (normP2 x).1 0 = some .lt then 18442240474082181120 else 9218868437227405312)
  else if ldK (normP2 x).1 (normP2 x).2 k < -1022 then fmul (can 4368491638549381120) (can (ldW (normP2 x).1 (ldK (normP2 x).1 (normP2 x).2 k + 53)))
  else fmul (can 4607182418800017408) (can (ldW (normP2 x).1 (ldK (normP2 x).1 (normP2 x).2 k)))

set_option maxHeartbeats 400000 in
theorem copysign_c (x : Nat) (w : World) : Calls Tryd.prog 86 #[.float .f64 0, .float .f64 x] w fun e w' => e = .returned (.float .f64 (cpW x)) ∧ w = w' := by
  have b1 : ∀ (x : Nat) (w : World), (callFunc 68 #[.float .f64 x]).run Tryd.prog w = .ok (.value (.int .u64 x)) w := fun x w => bits_entry _ w
  have b2 : ∀ (n : Int) (w : World), (callFunc 67 #[.int .u64 n]).run Tryd.prog w = .ok (.value (.float .f64 n.toNat)) w := fun n w => frombits_entry _ w
  go_enter Tryd.func86, Tryd.ntmps86
  go_wp2
  go_ret
  exact ⟨rfl, rfl⟩
set_option maxHeartbeats 400000 in
theorem inf1_c (w : World) : Calls Tryd.prog 71 #[.int .i64 1] w fun e w' => e = .returned (.float .f64 9218868437227405312) ∧ w = w' := by
  have b2 : ∀ (n : Int) (w : World), (callFunc 67 #[.int .u64 n]).run Tryd.prog w = .ok (.value (.float .f64 n.toNat)) w := fun n w => frombits_entry _ w
  go_enter Tryd.func71, Tryd.ntmps71
  go_wp2
  go_ret
  exact ⟨rfl, rfl⟩
set_option maxHeartbeats 400000 in
theorem infm_c (w : World) : Calls Tryd.prog 71 #[.int .i64 (-1)] w fun e w' => e = .returned (.float .f64 18442240474082181120) ∧ w = w' := by
  have b2 : ∀ (n : Int) (w : World), (callFunc 67 #[.int .u64 n]).run Tryd.prog w = .ok (.value (.float .f64 n.toNat)) w := fun n w => frombits_entry _ w
  go_enter Tryd.func71, Tryd.ntmps71
  go_wp2
  go_ret
  exact ⟨rfl, rfl⟩

set_option maxHeartbeats 4000000 in
theorem ldexp_main (x x1 : Nat) (e1 k K : Int) (w : World) (h0 : ¬ FloatKind.f64.format.order x 0 = some Ordering.eq) (h1 : infP x = false) (h2 : isNan x = false) (hn : isNan x1 = false) (he : normP2 x = (x1, e1)) (hK : ldK x1 e1 k = K) :
    Calls Tryd.prog 80 #[.float .f64 x, .int .i64 k] w (FlR (can (if K < -1075 then cpW x1 else if 1023 < K then (if D.order x1 0 = some .lt then 18442240474082181120 else 9218868437227405312)
      else if K < -1022 then fmul (can 4368491638549381120) (can (ldW x1 (K + 53))) else fmul (can 4607182418800017408) (can (ldW x1 K)))) w) := by
  have HI := Lib.hid (isInf_c x)
  have HN := Lib.hid (isNaN_c x)
  have HR := Lib.hid (fun w => normalize_c x w (by rw [he]; exact hn))
  rw [h1] at HI
  rw [h2] at HN
  rw [he] at HR
  clear h1 h2 hn he
  unfold ldK at hK
  have b1 : ∀ (x : Nat) (w : World), (callFunc 68 #[.float .f64 x]).run Tryd.prog w = .ok (.value (.int .u64 x)) w := fun x w => bits_entry _ w
  have b2 : ∀ (n : Int) (w : World), (callFunc 67 #[.int .u64 n]).run Tryd.prog w = .ok (.value (.float .f64 n.toNat)) w := fun n w => frombits_entry _ w
  generalize hE : (if K < -1075 then cpW x1 else if 1023 < K then (if D.order x1 0 = some .lt then 18442240474082181120 else 9218868437227405312)
      else if K < -1022 then fmul (can 4368491638549381120) (can (ldW x1 (K + 53))) else fmul (can 4607182418800017408) (can (ldW x1 K))) = E
  have HE := Lib.hid hE
  clear hE
  go_enter Tryd.func80, Tryd.ntmps80
  go_wp2_with (first
    | (go_at_call 75; refine (HI.out _).mono ?_; rintro e w1 ⟨rfl, rfl⟩)
    | (go_at_call 83; refine (HN.out _).mono ?_; rintro e w1 ⟨rfl, rfl⟩)
    | (go_at_call 85; refine (HR.out _).mono ?_; rintro e w1 ⟨rfl, hx⟩)
    | (go_at_call 86; refine (copysign_c _ _).mono ?_; rintro e w1 ⟨rfl, rfl⟩)
    | (go_at_call 71; refine (inf1_c _).mono ?_; rintro e w1 ⟨rfl, rfl⟩)
    | (go_at_call 71; refine (infm_c _).mono ?_; rintro e w1 ⟨rfl, rfl⟩)
    | (with_reducible refine upon_fl rfl ?_; intro r n hr))
  · exfalso
    simp_all
  all_goals (go_ret; refine ⟨_, rfl, ?_, by repeat (first | exact hx | refine Ext.drewN ?_ _)⟩; rw [← HE.out])
  · rw [if_pos (show K < -1075 by omega)]
  · have hk3' : FloatKind.f64.format.order x1 0 = some .lt := by have h := ‹(FloatKind.f64.format.order x1 0 == some Ordering.lt) = true›; simpa using h
    have hk4 : D.order x1 0 = some .lt := hk3'
    rw [if_neg (show ¬ K < -1075 by omega), if_pos (show 1023 < K by omega), if_pos hk4]
  · have hk3' : ¬ FloatKind.f64.format.order x1 0 = some .lt := by have h := ‹(FloatKind.f64.format.order x1 0 == some Ordering.lt) = false›; simpa using h
    have hk4 : ¬ D.order x1 0 = some .lt := hk3'
    rw [if_neg (show ¬ K < -1075 by omega), if_pos (show 1023 < K by omega), if_neg hk4]
  · rw [if_neg (show ¬ K < -1075 by omega), if_neg (show ¬ 1023 < K by omega), if_pos (show K < -1022 by omega), hr, can_fmul]
    simp only [fbin]
    rfl
  · rw [if_neg (show ¬ K < -1075 by omega), if_neg (show ¬ 1023 < K by omega), if_neg (show ¬ K < -1022 by omega), hr, can_fmul]
    simp only [fbin]
    rfl

theorem norm_fin {x : Nat} (h1 : infP x = false) (h2 : isNan x = false) : isNan (normP2 x).1 = false := by
  unfold normP2
  split
  · cases e : D.read x with
    | nan s t => unfold isNan at h2; rw [e] at h2; cases h2
    | infinity s =>
      rename_i hc
      exfalso
      have hi : x % 2 ^ 63 = 9218868437227405312 := by
        unfold Ieee.Format.read at e
        simp only [D_sign, D_inf, D_bin, D_least] at e
        split at e
        · cases e
        · split at e
          · cases e
          · split at e
            · rename_i h; exact h
            · cases e
      unfold infP absW at h1
      rw [hi] at h1
      revert h1
      decide +kernel
    | number s m i =>
      have : ∃ r, D.mul x 4841369599423283200 = some r := by
        unfold Ieee.Format.mul; rw [e]; exact ⟨_, rfl⟩
      obtain ⟨r, hr⟩ := this
      have h3 := mul_nan hr
      have e2 : fmul x 4841369599423283200 = r := by unfold fmul opt; rw [hr]; rfl
      show isNan (fmul x 4841369599423283200) = false
      rw [e2]; exact h3
  · exact h2

set_option maxHeartbeats 4000000 in
theorem ldexp_c (x : Nat) (k : Int) (w : World) : Calls Tryd.prog 73 #[.float .f64 x, .int .i64 k] w (FlR (can (ldexpP x k)) w) := by
  have HL : Hid (∀ w, Calls Tryd.prog 80 #[.float .f64 x, .int .i64 k] w (FlR (can (ldexpP x k)) w)) := by
    refine Lib.hid fun w => ?_
    unfold ldexpP
    by_cases h0 : D.order x 0 = some .eq
    · rw [if_pos h0]
      have h0' : FloatKind.f64.format.order x 0 = some .eq := h0
      clear h0
      go_enter Tryd.func80, Tryd.ntmps80
      go_wp2
      go_ret
      exact ⟨_, rfl, rfl, Ext.refl _⟩
    · rw [if_neg h0]
      have h0' : ¬ FloatKind.f64.format.order x 0 = some .eq := h0
      cases h1 : infP x with
      | true =>
        rw [if_pos rfl]
        have HI := Lib.hid (isInf_c x)
        rw [h1] at HI
        clear h0
        go_enter Tryd.func80, Tryd.ntmps80
        go_wp2_with (first | (go_at_call 75; refine (HI.out _).mono ?_; rintro e w1 ⟨rfl, rfl⟩))
        · exfalso
          simp_all
        go_ret
        exact ⟨_, rfl, rfl, Ext.refl _⟩
      | false =>
        rw [if_neg (by simp)]
        cases h2 : isNan x with
        | true =>
          rw [if_pos rfl]
          have HI := Lib.hid (isInf_c x)
          rw [h1] at HI
          have HN := Lib.hid (isNaN_c x)
          rw [h2] at HN
          clear h0
          go_enter Tryd.func80, Tryd.ntmps80
          go_wp2_with (first
            | (go_at_call 75; refine (HI.out _).mono ?_; rintro e w1 ⟨rfl, rfl⟩)
            | (go_at_call 83; refine (HN.out _).mono ?_; rintro e w1 ⟨rfl, rfl⟩))
          · exfalso
            simp_all
          go_ret
          exact ⟨_, rfl, rfl, Ext.refl _⟩
        | false =>
          rw [if_neg (by simp)]
          exact ldexp_main x _ _ k _ w h0' h1 h2 (norm_fin h1 h2) rfl rfl
  generalize ldexpP x k = E at *
  go_enter Tryd.func73, Tryd.ntmps73
  go_wp2_with (first | (go_at_call 80; refine (HL.out _).mono ?_; rintro e w1 ⟨r, rfl, hr, hx⟩))
  go_ret
  exact ⟨_, rfl, hr, hx⟩
end Go.Proofs.YtcppgbhjbmfldaaDoor

/- Walk: math.Frexp of a number above nought. -/
namespace Go.Proofs.YtcppgbhjbmfldaaDoor
open Go.RowKit Go.Fp Go.Rel Ieee
set_option maxRecDepth 20000

theorem norm_cases {x m : Nat} {i : Int} (h : D.read x = .number false m i) (h0 : m ≠ 0) : ∃ m1 p1, D.read (normP2 x).1 = .number false m1 p1 ∧ 2 ^ 52 ≤ m1 ∧ -1074 ≤ p1 ∧ p1 ≤ 971 ∧ -52 ≤ (normP2 x).2 ∧ (normP2 x).2 ≤ 0 ∧
    (normP2 x).2 + p1 = i + (m.log2 : Int) - 52 ∧ W m1 (-53) = W m (-(m.log2 : Int) - 1) := by
  obtain ⟨hlt, h1, h2⟩ := read_fields h
  by_cases hm : 2 ^ 52 ≤ m
  · have e : normP2 x = (x, 0) := if_neg (big_abs h hm)
    obtain ⟨f1, f2⟩ := frac_W h0 hm hlt h1 h1 rfl
    refine ⟨m, i, by rw [e]; exact h, hm, h1, h2, by rw [e]; simp, by rw [e]; simp, by rw [e]; simp only []; omega, f2⟩
  · have hi : i = -1074 := by rcases read_canon h with ⟨_, e⟩ | ⟨e, _⟩ <;> omega
    subst hi
    obtain ⟨ho, m1, p1, hr, g1, g2, g3, g4⟩ := small_abs h (by omega) h0
    have e : normP2 x = (fmul x c52, -52) := if_pos ho
    obtain ⟨_, g5, g6⟩ := read_fields hr
    have e2 : ((-1022 : Int) + 1074).toNat = 52 := by decide
    obtain ⟨f1, f2⟩ := frac_W h0 g1 g2 (show (-1074 : Int) ≤ -1022 by decide) g3 (by rw [e2]; exact g4)
    refine ⟨m1, p1, by rw [e]; exact hr, g1, g3, g6, by rw [e]; simp, by rw [e]; simp, by rw [e]; simp only []; omega, f2⟩

def FxR (m : Nat) (i : Int) (w : World) (e : Ending) (w' : World) : Prop := ∃ r, e = .returned (.tuple #[.float .f64 r, .int .i64 (i + (m.log2 : Int) + 1)]) ∧ D.read r = D.read (W m (-(m.log2 : Int) - 1)) ∧ Ext w w'

theorem inf_no {x m : Nat} {i : Int} (h : D.read x = .number false m i) : infP x = false := by
  unfold infP
  have hc : D.read cMax = .number false (2 ^ 53 - 1) 971 := by decide +kernel
  obtain ⟨h1, h2, h3⟩ := read_fields h
  rw [beq_eq_false_iff_ne, order_sv (abs_rd h) hc h2 (by decide), Ne, Option.some.injEq, compare_gt, signed_eq, signed_eq]
  simp only [sg, Bool.false_eq_true, if_false, Int.one_mul, ← Int.natCast_mul]
  have e : 2 ^ (i + 1074).toNat ≤ 2 ^ ((971 : Int) + 1074).toNat := Nat.pow_le_pow_right (by decide) (by omega)
  have h4 : m * 2 ^ (i + 1074).toNat ≤ (2 ^ 53 - 1) * 2 ^ ((971 : Int) + 1074).toNat := Nat.mul_le_mul (by omega) e
  omega

set_option maxHeartbeats 4000000 in
theorem frexp_c (x m : Nat) (i : Int) (w : World) (h : D.read x = .number false m i) (h0 : m ≠ 0) : Calls Tryd.prog 76 #[.float .f64 x] w (FxR m i w) := by
  obtain ⟨m1, p1, hr, hm1, hp1, hp2, he1, he2, hk, hW⟩ := norm_cases h h0
  have hnn : isNan (normP2 x).1 = false := by unfold isNan; rw [hr]; rfl
  have hfr := read_fr hr hm1
  obtain ⟨n1, n2, n3⟩ := read_norm hr hm1
  have HI := Lib.hid (isInf_c x)
  rw [inf_no h] at HI
  have hxn : isNan x = false := by unfold isNan; rw [h]; rfl
  have HN := Lib.hid (isNaN_c x)
  rw [hxn] at HN
  have HR := Lib.hid (fun w => normalize_c x w hnn)
  have ho : (FloatKind.f64.format.order x 0 == some Ordering.eq) = false := by
    have hz : D.read 0 = .number false 0 (-1074) := by decide +kernel
    obtain ⟨a1, a2, a3⟩ := read_fields h
    rw [beq_eq_false_iff_ne]
    show ¬ D.order x 0 = some .eq
    rw [order_sv h hz a2 (by decide), Option.some.injEq, compare_eq, signed_eq, signed_eq]
    simp only [sg, Bool.false_eq_true, if_false, Int.one_mul, ← Int.natCast_mul, Nat.zero_mul]
    have := Nat.mul_ne_zero h0 (show 2 ^ (i + 1074).toNat ≠ 0 by have := Nat.two_pow_pos (i + 1074).toNat; omega)
    omega
  have HF : Hid (D.read (bits BinOp.or IntKind.u64 (bits BinOp.andNot IntKind.u64 ((normP2 x).1 : Int) 9218868437227405312) 4602678819172646912).toNat = D.read (W m (-(m.log2 : Int) - 1))) := Lib.hid (by
    rw [hfr, ← hW]
    have hr2 : D.read (W m1 (-53)) = .number false m1 (-53) := by
      have h9 : D.read (bits BinOp.or IntKind.u64 (bits BinOp.andNot IntKind.u64 ((normP2 x).1 : Int) 9218868437227405312) 4602678819172646912).toNat = .number false m1 (-53) := hfr
      have := read_W h9 (by omega)
      rw [h9] at this
      exact this.symm
    exact hr2.symm)
  have hA : bits BinOp.and IntKind.u64 (((normP2 x).1 : Int) / 4503599627370496) 2047 = p1 + 1075 := by
    have h1 : (((normP2 x).1 : Int) / 4503599627370496) = (((normP2 x).1 / 4503599627370496 : Nat) : Int) := (Int.natCast_ediv (normP2 x).1 4503599627370496).symm
    rw [h1, and_exp]
    exact n3
  have hK : i + (m.log2 : Int) + 1 = (normP2 x).2 + p1 + 53 := by omega
  have HK := Lib.hid hK
  clear hnn hfr n1 n2 n3 hxn h hr hk hW hK
  generalize normP2 x = p at *
  obtain ⟨x1, e1⟩ := p
  simp only [] at *
  have b1 : ∀ (x : Nat) (w : World), (callFunc 68 #[.float .f64 x]).run Tryd.prog w = .ok (.value (.int .u64 x)) w := fun x w => bits_entry _ w
  have b2 : ∀ (n : Int) (w : World), (callFunc 67 #[.int .u64 n]).run Tryd.prog w = .ok (.value (.float .f64 n.toNat)) w := fun n w => frombits_entry _ w
  have HX : Hid (∀ w, Calls Tryd.prog 82 #[.float .f64 x] w (FxR m i w)) := by
    refine Lib.hid fun w => ?_
    go_enter Tryd.func82, Tryd.ntmps82
    go_wp2_with (first
      | (go_at_call 75; go_must (refine (HI.out _).mono ?_; rintro e w1 ⟨rfl, rfl⟩))
      | (go_at_call 83; go_must (refine (HN.out _).mono ?_; rintro e w1 ⟨rfl, rfl⟩))
      | (go_at_call 85; go_must (refine (HR.out _).mono ?_; rintro e w1 ⟨rfl, hx⟩)))
    go_ret2
    unfold FxR
    have hk := HK.out
    have e : e1 + (p1 + 1075 - 1023 + 1) = i + (m.log2 : Int) + 1 := by omega
    rw [← e]
    exact ⟨_, rfl, HF.out, hx⟩
  go_enter Tryd.func76, Tryd.ntmps76
  go_wp2_with (first | (go_at_call 82; go_must (refine (HX.out _).mono ?_; rintro e w1 ⟨r, rfl, hr, hx⟩)))
  go_ret2
  exact ⟨_, rfl, hr, hx⟩
end Go.Proofs.YtcppgbhjbmfldaaDoor

/- Walk: the logarithm of package grain. -/
namespace Go.Proofs.YtcppgbhjbmfldaaDoor
open Go.RowKit Go.Fp Go.Rel Ieee
set_option maxRecDepth 20000

set_option maxHeartbeats 400000 in
theorem isInf1_c (x : Nat) (w : World) : Calls Tryd.prog 75 #[.float .f64 x, .int .i64 1] w fun e w' => e = .returned (.bool (D.order x cMax == some .gt)) ∧ w = w' := by
  go_enter Tryd.func75, Tryd.ntmps75
  go_wp2_with (first | (go_at_call 58; refine (abs_c _ _).mono ?_; rintro e w1 ⟨rfl, rfl⟩))
  go_ret
  exact ⟨rfl, rfl⟩
theorem order_zero {x m : Nat} {i : Int} (h : D.read x = .number false m i) (h0 : m ≠ 0) : D.order x 0 = some .gt := by
  have hz : D.read 0 = .number false 0 (-1074) := by decide +kernel
  obtain ⟨a1, a2, a3⟩ := read_fields h
  rw [order_sv h hz a2 (by decide), Option.some.injEq, compare_gt, signed_eq, signed_eq]
  simp only [sg, Bool.false_eq_true, if_false, Int.one_mul, ← Int.natCast_mul, Nat.zero_mul]
  have := Nat.mul_ne_zero h0 (show 2 ^ (i + 1074).toNat ≠ 0 by have := Nat.two_pow_pos (i + 1074).toNat; omega)
  omega
theorem inf1_no {x m : Nat} {i : Int} (h : D.read x = .number false m i) : (D.order x cMax == some .gt) = false := by
  have hc : D.read cMax = .number false (2 ^ 53 - 1) 971 := by decide +kernel
  obtain ⟨h1, h2, h3⟩ := read_fields h
  rw [beq_eq_false_iff_ne, order_sv h hc h2 (by decide), Ne, Option.some.injEq, compare_gt, signed_eq, signed_eq]
  simp only [sg, Bool.false_eq_true, if_false, Int.one_mul, ← Int.natCast_mul]
  have e : 2 ^ (i + 1074).toNat ≤ 2 ^ ((971 : Int) + 1074).toNat := Nat.pow_le_pow_right (by decide) (by omega)
  have h4 : m * 2 ^ (i + 1074).toNat ≤ (2 ^ 53 - 1) * 2 ^ ((971 : Int) + 1074).toNat := Nat.mul_le_mul (by omega) e
  omega

set_option maxHeartbeats 8000000 in
theorem ln_main (x m : Nat) (i : Int) (w : World) (h : D.read x = .number false m i) (h0 : m ≠ 0) : Calls Tryd.prog 70 #[.float .f64 x] w (FlR (lnQ (W m (midJ m)) (i - midJ m)) w) := by
  obtain ⟨hlt, hi1, hi2⟩ := read_fields h
  have hl52 : m.log2 ≤ 52 := log2_of h0 hlt
  have hxn : isNan x = false := by unfold isNan; rw [h]; rfl
  have e0 : FloatKind.f64.format.order x x = some .eq := order_self hxn
  have e1 : FloatKind.f64.format.order x 0 = some .gt := order_zero h h0
  have HI := Lib.hid (isInf1_c x)
  rw [inf1_no h] at HI
  obtain ⟨K1, hK1⟩ : ∃ k, k = i + (m.log2 : Int) + 1 := ⟨_, rfl⟩
  have HX : Hid (∀ w, Calls Tryd.prog 76 #[.float .f64 x] w (fun e w' => ∃ r, e = .returned (.tuple #[.float .f64 r, .int .i64 K1]) ∧ D.read r = D.read (W m (-(m.log2 : Int) - 1)) ∧ Ext w w')) :=
    Lib.hid (fun w => by rw [hK1]; exact frexp_c x m i w h h0)
  have b1 : -1200 ≤ K1 := by omega
  have b2 : K1 ≤ 1200 := by omega
  have hroot : ∀ r, D.read r = D.read (W m (-(m.log2 : Int) - 1)) → (((D.order r cRoot == some .lt) = true) ↔ m * 2 ^ (1073 - m.log2) < CR * 2 ^ 1021) := by
    intro r hr
    have := lt_root hr h0 hlt (by omega) (by omega)
    rwa [show (-(m.log2 : Int) - 1 + 1074).toNat = 1073 - m.log2 by omega] at this
  have hWn : isNan (W m (-(m.log2 : Int) - 1)) = false := by
    obtain ⟨m', p, hr, _⟩ := W_read h0 hlt (show (-1074 : Int) ≤ -(m.log2 : Int) - 1 by omega) (by omega)
    unfold isNan; rw [hr]; rfl
  have c2 : can 4611686018427387904 = two := can_of_not (by decide +kernel)
  by_cases hc : m * 2 ^ (1073 - m.log2) < CR * 2 ^ 1021
  · have hmid : midJ m = -(m.log2 : Int) := by unfold midJ; rw [if_pos hc]
    have HH : Hid (∀ r, D.read r = D.read (W m (-(m.log2 : Int) - 1)) → FloatKind.f64.format.order r 4604544271217802189 = some .lt ∧ fmul (can r) (can 4611686018427387904) = W m (midJ m)) := Lib.hid (by
      intro r hr
      refine ⟨?_, ?_⟩
      · have h1 := (hroot r hr).2 hc
        have h2 : D.order r cRoot = some .lt := by simpa using h1
        exact h2
      · rw [can_of_not (by rw [nan_rd hr]; exact hWn), c2, step_double hr h0 hlt (by omega) (by omega), hmid]
        congr 1; omega)
    have HK : Hid (K1 - 1 = i - midJ m) := Lib.hid (by omega)
    generalize W m (midJ m) = M at *
    generalize i - midJ m = K at *
    clear hroot hc hxn h hmid hWn hK1 c2
    go_enter Tryd.func70, Tryd.ntmps70
    go_wp2_with (first
      | (go_at_call 75; go_must (refine (HI.out _).mono ?_; rintro e w1 ⟨rfl, rfl⟩))
      | (go_at_call 76; go_must (refine (HX.out _).mono ?_; rintro e w1 ⟨r, rfl, hr, hx⟩; obtain ⟨o1, hM⟩ := HH.out r hr; have hw : Ext w w1 := bareN hx rfl rfl rfl rfl; clear hx))
      | (with_reducible refine upon_fl rfl ?_; intro y ny hy))
    refine wp_loop_rounds 12 ?_
    iterate 11
      rw [rounds_succ]
      go_wp2_with (first | (with_reducible refine upon_fl rfl ?_; intro z nz hz))
    rw [rounds_succ]
    go_wp2_with (first | (with_reducible refine upon_fl rfl ?_; intro z nz hz))
    go_ret
    refine ⟨_, rfl, ?_, by repeat (first | exact hw | refine Ext.drewN ?_ _)⟩
    rw [← HK.out]
    simp only [lnQ, lnS, *, fbin]
    rfl
  · have hmid : midJ m = -(m.log2 : Int) - 1 := by unfold midJ; rw [if_neg hc]
    have HH : Hid (∀ r, D.read r = D.read (W m (-(m.log2 : Int) - 1)) → (FloatKind.f64.format.order r 4604544271217802189 == some .lt) = false ∧ lnQ (W m (midJ m)) K1 = lnQ (can r) K1) := Lib.hid (by
      intro r hr
      refine ⟨?_, ?_⟩
      · cases h : (FloatKind.f64.format.order r 4604544271217802189 == some Ordering.lt) with
        | false => rfl
        | true => exact absurd ((hroot r hr).1 h) hc
      · rw [can_of_not (by rw [nan_rd hr]; exact hWn), hmid]
        exact (lnQ_read K1 hr).symm)
    have HK : i - midJ m = K1 := by omega
    rw [HK]
    generalize W m (midJ m) = M at *
    clear hroot hc hxn h hmid hWn hK1 c2 HK
    go_enter Tryd.func70, Tryd.ntmps70
    go_wp2_with (first
      | (go_at_call 75; go_must (refine (HI.out _).mono ?_; rintro e w1 ⟨rfl, rfl⟩))
      | (go_at_call 76; go_must (refine (HX.out _).mono ?_; rintro e w1 ⟨r, rfl, hr, hx⟩; obtain ⟨o1, hM⟩ := HH.out r hr; have hw : Ext w w1 := bareN hx rfl rfl rfl rfl; have HM := Lib.hid hM; clear hx hM))
      | (with_reducible refine upon_fl rfl ?_; intro y ny hy))
    refine wp_loop_rounds 12 ?_
    iterate 11
      rw [rounds_succ]
      go_wp2_with (first | (with_reducible refine upon_fl rfl ?_; intro z nz hz))
    rw [rounds_succ]
    go_wp2_with (first | (with_reducible refine upon_fl rfl ?_; intro z nz hz))
    go_ret
    refine ⟨_, rfl, ?_, by repeat (first | exact hw | refine Ext.drewN ?_ _)⟩
    rw [HM.out]
    simp only [lnQ, lnS, *, fbin]
    rfl

theorem nan_c (w : World) : Calls Tryd.prog 74 #[] w fun e w' => e = .returned (.float .f64 QN) ∧ w = w' := by
  have b2 : ∀ (n : Int) (w : World), (callFunc 67 #[.int .u64 n]).run Tryd.prog w = .ok (.value (.float .f64 n.toNat)) w := fun n w => frombits_entry _ w
  go_enter Tryd.func74, Tryd.ntmps74
  go_wp2
  go_ret
  exact ⟨rfl, rfl⟩
end Go.Proofs.YtcppgbhjbmfldaaDoor

/- Walk: the logarithm of package grain, of whatever number. -/
namespace Go.Proofs.YtcppgbhjbmfldaaDoor
open Go.RowKit Go.Fp Go.Rel Ieee
set_option maxRecDepth 20000

theorem lnP_can (x : Nat) : lnP (can x) = lnP x := by
  cases h : isNan x with
  | false => rw [can_of_not h]
  | true =>
    rw [can_of_nan h]
    unfold lnP
    rw [if_pos (.inl isNan_QN), if_pos (.inl h)]
theorem pos_cases {x : Nat} (hn : isNan x = false) (hl : ¬ D.order x 0 = some .lt) (he : ¬ D.order x 0 = some .eq) : (D.read x = .infinity false) ∨ ∃ m i, D.read x = .number false m i ∧ m ≠ 0 := by
  have hz : D.read 0 = .number false 0 (-1074) := by decide +kernel
  cases e : D.read x with
  | nan s t => unfold isNan at hn; rw [e] at hn; cases hn
  | infinity s =>
    cases s with
    | false => exact .inl rfl
    | true => exfalso; apply hl; unfold Format.order; rw [e, hz]; rfl
  | number s m i =>
    right
    obtain ⟨a1, a2, a3⟩ := read_fields e
    have ho := order_sv e hz a2 (by decide)
    rw [signed_eq, signed_eq] at ho
    have hp := Nat.two_pow_pos (i + 1074).toNat
    by_cases h0 : m = 0
    · exfalso
      apply he
      rw [ho, h0]
      simp [compare_eq]
    · cases s with
      | false => exact ⟨m, i, rfl, h0⟩
      | true =>
        exfalso
        apply hl
        rw [ho, Option.some.injEq, compare_lt]
        simp only [sg, if_true, Bool.false_eq_true, if_false, Int.one_mul, Int.neg_mul]
        have := Nat.mul_pos (Nat.pos_of_ne_zero h0) hp
        rw [← Int.natCast_mul]
        simp only [Int.natCast_zero, Int.zero_mul]
        omega

set_option maxHeartbeats 4000000 in
theorem ln_c (x : Nat) (w : World) : Calls Tryd.prog 70 #[.float .f64 x] w (FlR (can (lnP x)) w) := by
  cases hn : isNan x with
  | true =>
    have hE : lnP x = QN := by unfold lnP; exact if_pos (.inl hn)
    rw [hE]
    have e0 : FloatKind.f64.format.order x x = none := order_l _ _ hn
    clear hn hE
    go_enter Tryd.func70, Tryd.ntmps70
    go_wp2_with (first | (go_at_call 74; go_must (refine (nan_c _).mono ?_; rintro e w1 ⟨rfl, rfl⟩)))
    go_ret
    exact ⟨_, rfl, rfl, Ext.refl _⟩
  | false =>
    have e0 : FloatKind.f64.format.order x x = some .eq := order_self hn
    by_cases hl : D.order x 0 = some .lt
    · have hE : lnP x = QN := by unfold lnP; exact if_pos (.inr hl)
      rw [hE]
      have e1 : FloatKind.f64.format.order x 0 = some .lt := hl
      clear hn hE hl
      go_enter Tryd.func70, Tryd.ntmps70
      go_wp2_with (first | (go_at_call 74; go_must (refine (nan_c _).mono ?_; rintro e w1 ⟨rfl, rfl⟩)))
      go_ret
      exact ⟨_, rfl, rfl, Ext.refl _⟩
    · have hno : ¬ (isNan x = true ∨ D.order x 0 = some .lt) := by
        intro h; rcases h with h | h
        · rw [hn] at h; cases h
        · exact hl h
      by_cases he : D.order x 0 = some .eq
      · have hE : lnP x = 18442240474082181120 := by unfold lnP; rw [if_neg hno, if_pos he]
        rw [hE]
        have e1 : FloatKind.f64.format.order x 0 = some .eq := he
        clear hn hE hl he hno
        go_enter Tryd.func70, Tryd.ntmps70
        go_wp2_with (first | (go_at_call 71; go_must (refine (infm_c _).mono ?_; rintro e w1 ⟨rfl, rfl⟩)))
        go_ret
        exact ⟨_, rfl, rfl, Ext.refl _⟩
      · rcases pos_cases hn hl he with hi | ⟨m, i, hr, h0⟩
        · have hE : lnP x = x := by unfold lnP; rw [if_neg hno, if_neg he, hi]
          rw [hE]
          have hz : D.read 0 = .number false 0 (-1074) := by decide +kernel
          have e1 : FloatKind.f64.format.order x 0 = some .gt := by
            show D.order x 0 = some .gt
            unfold Format.order; rw [hi, hz]; rfl
          have hc : D.read cMax = .number false (2 ^ 53 - 1) 971 := by decide +kernel
          have hI : (D.order x cMax == some .gt) = true := by
            unfold Format.order; rw [hi, hc]; rfl
          have HI := Lib.hid (isInf1_c x)
          rw [hI] at HI
          clear hn hE hl he hno hi hz hc hI
          go_enter Tryd.func70, Tryd.ntmps70
          go_wp2_with (first | (go_at_call 75; go_must (refine (HI.out _).mono ?_; rintro e w1 ⟨rfl, rfl⟩)))
          go_ret
          exact ⟨_, rfl, rfl, Ext.refl _⟩
        · have hE : lnP x = lnQ (W m (midJ m)) (i - midJ m) := by unfold lnP; rw [if_neg hno, if_neg he, hr]
          rw [hE, show can (lnQ (W m (midJ m)) (i - midJ m)) = lnQ (W m (midJ m)) (i - midJ m) from can_fadd _ _]
          exact ln_main x m i w hr h0
end Go.Proofs.YtcppgbhjbmfldaaDoor

/- The exponential: what it is; its whole number lies within the machine's. -/
namespace Go.Proofs.YtcppgbhjbmfldaaDoor
open Go.RowKit Go.Fp Go.Rel Ieee
set_option maxRecDepth 20000

abbrev c710 : Nat := 4649456441864749056
abbrev m746 : Nat := 13873145138068324352
abbrev cLog : Nat := 4609176140021203710
abbrev cHigh : Nat := 4604418534311723008
abbrev cLow : Nat := 4461442080421002358
def facs : List Nat := [4607182418800017408, 4607182418800017408, 4611686018427387904, 4618441417868443648, 4627448617123184640, 4638144666238189568, 4649544402794971136, 4662263553305083904, 4675774352187195392, 4689977843394805760, 4705047200009289728, 4720626352061939712, 4736815922046566400, 4753323511810883584, 4770521722250067968]
/-- a number's whole part, downwards -/
def floorN (y : Nat) : Nat := intP .down y
def kV (y : Nat) : Int := ((D.read (floorN y)).toInt .zero).getD 0
def expY (x : Nat) : Nat := fadd (fmul x (can cLog)) (can half)
def expR (x : Nat) : Nat := fsub (fsub x (fmul (can (floorN (expY x))) (can cHigh))) (fmul (can (floorN (expY x))) (can cLow))
/-- the polynomial's last terms, from the greatest power on -/
def polyP (r : Nat) : Nat → Nat
  | 0 => fdiv (can 4607182418800017408) (can (facs.getD 14 0))
  | k + 1 => fadd (fdiv (can 4607182418800017408) (can (facs.getD (13 - k) 0))) (fmul r (polyP r k))
def expP (x : Nat) : Nat := if isNan x = true then QN else if D.order x c710 = some .gt then 9218868437227405312 else if D.order x m746 = some .lt then 0
  else can (ldexpP (polyP (expR x) 14) (kV (expY x)))

theorem tp_of_bound {x : Nat} (hn : isNan x = false) (h1 : D.order x c710 ≠ some .gt) (h2 : D.order x m746 ≠ some .lt) : Tp 10 x := by
  cases e : D.read x with
  | nan s t => unfold isNan at hn; rw [e] at hn; cases hn
  | infinity s =>
    exfalso
    unfold Format.order at h1 h2
    rw [e] at h1 h2
    cases s
    · exact h1 rfl
    · exact h2 rfl
  | number s m i =>
    obtain ⟨hm, hi1, hi2⟩ := read_fields e
    have I1 : IsI c710 710 := ⟨false, _, _, rfl, by decide +kernel, by decide +kernel⟩
    have I2 : IsI m746 (-746) := ⟨true, _, _, rfl, by decide +kernel, by decide +kernel⟩
    obtain ⟨t1, n1, j1, k1, k2, k3⟩ := I1
    obtain ⟨t2, n2, j2, q1, q2, q3⟩ := I2
    rw [order_sv e k1 hi1 k2, k3, Ne, Option.some.injEq, compare_gt] at h1
    rw [order_sv e q1 hi1 q2, q3, Ne, Option.some.injEq, compare_lt] at h2
    refine ⟨s, m, i, e, ?_⟩
    by_cases hz : m = 0
    · exact .inl hz
    · right
      have hlog := Nat.log2_self_le hz
      have hp2 := pow1074
      have hs : signed s m (i + 1074).toNat = ((m * 2 ^ (i + 1074).toNat : Nat) : Int) ∨ signed s m (i + 1074).toNat = -((m * 2 ^ (i + 1074).toNat : Nat) : Int) := by
        rw [signed_eq, Int.natCast_mul]
        cases s
        · left; simp only [sg, Bool.false_eq_true, if_false, Int.one_mul]
        · right; simp only [sg, if_true, Int.neg_mul, Int.one_mul]
      have hle : m * 2 ^ (i + 1074).toNat < 1024 * 2 ^ 1074 := by
        generalize hZ : (2 : Nat) ^ 1074 = Z at *
        generalize m * 2 ^ (i + 1074).toNat = A at *
        generalize signed s m (i + 1074).toNat = S at *
        omega
      obtain ⟨Z, hZ⟩ : ∃ Z, Z = 1074 := ⟨_, rfl⟩
      have e10 : (2 : Nat) ^ 10 = 1024 := rfl
      have h3 : 2 ^ (m.log2 + (i + 1074).toNat) < 2 ^ (10 + Z) := by
        rw [Nat.pow_add 2 m.log2, Nat.pow_add 2 10 Z, hZ, e10]
        exact Nat.lt_of_le_of_lt (Nat.mul_le_mul_right _ hlog) hle
      have h4 := (Nat.pow_lt_pow_iff_right (by decide : 1 < 2)).1 h3
      omega
theorem exp_tp {x : Nat} (h : Tp 10 x) : Tp 14 (expY x) := by
  have hL : Tp 1 cLog := ⟨false, _, _, rfl, .inr (by decide +kernel)⟩
  have hH : Tp 12 half := ⟨false, _, _, rfl, .inr (by decide +kernel)⟩
  unfold expY
  rw [hL.can, hH.can]
  have h1 := (tp_mul h hL (by omega) (by omega)).2
  exact (tp_add (h1.mono (by omega)) hH (by omega) (by omega)).2
theorem floor_fits {y f : Nat} (h : Tp 14 y) (hf : IntR .down y f) : f = floorN y ∧ floatToIntVal .f64 f .i64 = some (kV y) := by
  have hn := h.fin
  rcases hf with ⟨h2, _⟩ | ⟨_, h2⟩
  · rw [hn] at h2; cases h2
  · have hfl : f = floorN y := by rw [h2]; unfold floorN intP; rw [if_neg (by rw [hn]; simp)]
    refine ⟨hfl, ?_⟩
    obtain ⟨s, m, i, e, hb⟩ := h
    obtain ⟨hm, hi1, hi2⟩ := read_fields e
    have hI := isI_int (way := .down) (.inr rfl) e
    rw [← h2] at hI
    obtain ⟨b, hb1, hb2, hb3⟩ := way_cut (way := .down) (.inr rfl) s (m <<< i.toNat) (-i).toNat
    have hsm : m <<< i.toNat / 2 ^ (-i).toNat < 16384 := by
      rcases hb with hb | hb
      · rw [hb, Nat.zero_shiftLeft, Nat.zero_div]; decide
      · by_cases hz : m = 0
        · rw [hz, Nat.zero_shiftLeft, Nat.zero_div]; decide
        · have hlt := lt_log2 m
          rw [Nat.div_lt_iff_lt_mul (Nat.two_pow_pos _), Nat.shiftLeft_eq, show 16384 = 2 ^ 14 by decide, ← Nat.pow_add]
          refine Nat.lt_of_lt_of_le (Nat.mul_lt_mul_of_pos_right hlt (Nat.two_pow_pos _)) ?_
          rw [← Nat.pow_add]
          exact Nat.pow_le_pow_right (by decide) (by omega)
    have hkV : kV y = signed s (Toward.down.cut s (m <<< i.toNat) (-i).toNat) 0 := by
      unfold kV
      rw [← hfl, hI.toInt]; rfl
    rw [hkV]
    refine toVal hI ?_ ?_
    · rw [signed0, hb2]
      generalize m <<< i.toNat / 2 ^ (-i).toNat = q at *
      cases s <;> simp only [sg, if_true, Bool.false_eq_true, if_false] <;> omega
    · rw [signed0, hb2]
      generalize m <<< i.toNat / 2 ^ (-i).toNat = q at *
      cases s <;> simp only [sg, if_true, Bool.false_eq_true, if_false] <;> omega
end Go.Proofs.YtcppgbhjbmfldaaDoor

/- Stores of one value into a block of one's own; the angle of a point, package path's. -/
namespace Go.Rel
open Go.RowKit
section
variable {P : Program}
theorem Blk.same {w w' : World} {g n : Nat} {t : TypeId} {c : Array Value} (h : Blk w n t c) (hk : ∀ n, n ≠ g → w'.heap[n]? = w.heap[n]?) (hn : n ≠ g) : Blk w' n t c := by
  unfold Blk at *; rw [hk n hn]; exact h
end
end Go.Rel

namespace Go.Proofs.YtcppgbhjbmfldaaDoor
open Go.RowKit Go.Fp Go.Rel
set_option maxRecDepth 20000

end Go.Proofs.YtcppgbhjbmfldaaDoor

/- Walk: the exponential of package grain. -/
namespace Go.Proofs.YtcppgbhjbmfldaaDoor
open Go.RowKit Go.Fp Go.Rel
set_option maxRecDepth 20000

theorem abs_nan {x : Nat} (h : isNan x = true) : isNan (absW x) = true := by
  obtain ⟨h1, h2⟩ := abs_parts x
  unfold isNan Ieee.Format.read at *
  simp only [D_sign, D_inf, D_bin, D_least] at *
  rw [h1]
  split
  · rename_i h3; rw [if_pos h3] at h; cases h
  · rename_i h3
    rw [if_neg h3] at h
    split
    · rename_i h4; rw [if_pos h4] at h; cases h
    · rename_i h4
      rw [if_neg h4] at h
      split
      · rename_i h5; rw [if_pos h5] at h; cases h
      · rfl
theorem ldexp_nan {x : Nat} (k : Int) (h : isNan x = true) : ldexpP x k = x := by
  unfold ldexpP
  have h0 : ¬ D.order x 0 = some .eq := by rw [order_l _ _ h]; simp
  have h1 : ¬ infP x = true := by unfold infP; rw [order_l _ _ (abs_nan h)]; simp
  rw [if_neg h0, if_neg h1, if_pos h]
theorem ldexp_can (x : Nat) (k : Int) : can (ldexpP x k) = can (ldexpP (can x) k) := by
  cases h : isNan x with
  | false => rw [can_of_not h]
  | true => rw [can_of_nan h, ldexp_nan k h, ldexp_nan k isNan_QN, can_of_nan h, can_of_nan isNan_QN]
set_option maxHeartbeats 8000000 in
theorem exp_main (x : Nat) (w : World) (hn : isNan x = false) (h1 : D.order x c710 ≠ some .gt) (h2 : D.order x m746 ≠ some .lt) :
    Calls Tryd.prog 69 #[.float .f64 x] w (FlR (can (ldexpP (polyP (expR x) 14) (kV (expY x)))) w) := by
  have hT := exp_tp (tp_of_bound hn h1 h2)
  have e0 : FloatKind.f64.format.order x x = some .eq := order_self hn
  have o1 : (FloatKind.f64.format.order x 4649456441864749056 == some Ordering.gt) = false := by rw [beq_eq_false_iff_ne]; exact h1
  have o2 : (FloatKind.f64.format.order x 13873145138068324352 == some Ordering.lt) = false := by rw [beq_eq_false_iff_ne]; exact h2
  have hcx : can x = x := can_of_not hn
  have hcy : can (expY x) = expY x := can_fadd _ _
  have HF : Hid (∀ y f, can y = expY x → IntR .down y f → f = floorN (expY x) ∧ floatToIntVal .f64 f .i64 = some (kV (expY x))) := Lib.hid fun y f hy hf => by
    have : y = expY x := can_fix (by rw [hy, hcy]) hT.fin
    subst this
    exact floor_fits hT hf
  generalize hE : can (ldexpP (polyP (expR x) 14) (kV (expY x))) = E
  have HE := Lib.hid hE
  have HC := Lib.hid hcx
  clear hE hT h1 h2 hn hcy hcx
  have tk : Hid True := trivial
  go_enter Tryd.func69, Tryd.ntmps69
  go_wp2_with (first
    | (go_at_call 72; go_must (refine (floor_c _ _).mono ?_; rintro e w1 ⟨f, rfl, hfi, hx⟩; obtain ⟨rfl, hfv⟩ := HF.out _ f (by simp only [*, fbin, expY, HC.out]) hfi; have hc := fun w => conv_run w hfv; have hw : Ext w w1 := bareN hx rfl rfl rfl rfl))
    | (refine wpList_own rfl 106 _ _ rfl _ _ rfl rfl _ _ (Blk.new _ _ _) (by kernel_rfl) rfl (by simp [Value.oneCell']) ?_; go_must (intro u bn en sn; have hu := en _ (by repeat (first | exact hw | refine Ext.drewN ?_ _ | refine Ext.alloc ?_ _)) hw.size; have kc := bn.cell; clear en sn))
    | (with_reducible refine upon_fl rfl ?_; intro r n hr))
  rename_i ra na ha rb nb hb rc nc hc' rd nd hd re ne he rg ng hg KK hKK
  have er : can rg = expR x := by rw [hg, hd, he, hc']; simp only [fbin, expR, HC.out]
  have ep : can r = polyP (expR x) 0 := by rw [hr]; simp only [fbin]; rfl
  have hEE := HE.out
  generalize expR x = R at *
  have HEE := Lib.hid hEE
  clear ha hb hc' hd he hg hr hx hfi hfv bn HE hEE HF
  refine wp_loop_rounds 15 ?_
  iterate 14
    rw [rounds_succ]
    go_wp2_with (first | (with_reducible refine upon_fl rfl ?_; intro y ny hy))
  rw [rounds_succ]
  go_wp2_with (first
    | (go_at_call 73; go_must (refine (ldexp_c _ _ _).mono ?_; rintro e v1 ⟨rl, rfl, hrl, hx⟩; have hv := hu.trans (bareN hx rfl rfl rfl rfl)))
    | (with_reducible refine upon_fl rfl ?_; intro y ny hy))
  go_ret
  refine ⟨_, rfl, ?_, hv⟩
  rw [hrl, ldexp_can, ← HEE.out, ldexp_can (polyP R 14)]
  have : can y = polyP R 14 := by
    simp only [*, fbin]
    rfl
  rw [this, show can (polyP R 14) = polyP R 14 from can_fadd _ _]

set_option maxHeartbeats 4000000 in
theorem exp_c (x : Nat) (w : World) : Calls Tryd.prog 69 #[.float .f64 x] w (FlR (expP x) w) := by
  unfold expP
  cases hn : isNan x with
  | true =>
    rw [if_pos rfl]
    have e0 : FloatKind.f64.format.order x x = none := order_l _ _ hn
    have hq := Lib.hid (can_of_nan hn)
    clear hn
    go_enter Tryd.func69, Tryd.ntmps69
    go_wp2
    go_ret
    exact ⟨_, rfl, hq.out, Ext.refl _⟩
  | false =>
    rw [if_neg (by simp)]
    by_cases h1 : D.order x c710 = some .gt
    · rw [if_pos h1]
      have e0 : FloatKind.f64.format.order x x = some .eq := order_self hn
      have o1 : FloatKind.f64.format.order x 4649456441864749056 = some Ordering.gt := h1
      clear h1 hn
      go_enter Tryd.func69, Tryd.ntmps69
      go_wp2_with (first | (go_at_call 71; refine (inf1_c _).mono ?_; rintro e w1 ⟨rfl, rfl⟩))
      go_ret
      exact ⟨_, rfl, by decide +kernel, Ext.refl _⟩
    · rw [if_neg h1]
      by_cases h2 : D.order x m746 = some .lt
      · rw [if_pos h2]
        have e0 : FloatKind.f64.format.order x x = some .eq := order_self hn
        have o1 : (FloatKind.f64.format.order x 4649456441864749056 == some Ordering.gt) = false := by rw [beq_eq_false_iff_ne]; exact h1
        have o2 : FloatKind.f64.format.order x 13873145138068324352 = some Ordering.lt := h2
        clear h1 h2 hn
        go_enter Tryd.func69, Tryd.ntmps69
        go_wp2
        go_ret
        exact ⟨_, rfl, can0, Ext.refl _⟩
      · rw [if_neg h2]
        exact exp_main x w hn h1 h2
end Go.Proofs.YtcppgbhjbmfldaaDoor

/- Walk: the exponential of the reference. -/
namespace Go.Proofs.YtcppgbhjbmfldaaDoor
open Go.RowKit Go.Fp Go.Rel
set_option maxRecDepth 20000

/-- the product of the whole numbers up to one -/
def facP : Nat → Nat
  | 0 => 4607182418800017408
  | 1 => 4607182418800017408
  | k + 2 => fmul (facP (k + 1)) (can (floatOfInt .f64 ((k + 2 : Nat) : Int)))
def polyQ (r : Nat) : Nat → Nat
  | 0 => 0
  | k + 1 => polyP r k

end Go.Proofs.YtcppgbhjbmfldaaDoor
