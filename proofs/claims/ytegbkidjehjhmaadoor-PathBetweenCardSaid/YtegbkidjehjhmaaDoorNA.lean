/- The nearest angle of a number of radians: how package grain finds it, how the reference does. -/
import Derived.Test.YtegbkidjehjhmaaDoorN9
import Derived.Test.YtegbkidjehjhmaaDoorN7
import Derived.Laws.FloatArith
namespace Go.Proofs.YtegbkidjehjhmaaDoor
open Go.RowKit Go.Fp Go.Rel Ieee

/-- the whole number nearest to a number; 0 of what is too great -/
def nearV (x : Nat) : Int := match D.read x with
  | .number s m i => if -9000000000000000000 ≤ signed s (Toward.even.cut s (m <<< i.toNat) (-i).toNat) 0 ∧ signed s (Toward.even.cut s (m <<< i.toNat) (-i).toNat) 0 ≤ 9000000000000000000
      then signed s (Toward.even.cut s (m <<< i.toNat) (-i).toNat) 0 else 0
  | _ => 0
theorem nearV_can (x : Nat) : nearV (can x) = nearV x := by
  refine can_cases (fun y => nearV y = nearV x) x (fun _ => rfl) (fun h => ?_)
  obtain ⟨s, t, e⟩ := read_nan h
  unfold nearV
  rw [e, show D.read QN = .nan false 2251799813685249 by decide +kernel]
theorem nearV_nan {x : Nat} (h : isNan x = true) : nearV x = 0 := by
  obtain ⟨s, t, e⟩ := read_nan h
  unfold nearV; rw [e]

theorem c9_isI : IsI c9 9000000000000000000 := ⟨false, _, _, rfl, by decide +kernel, by decide +kernel⟩
theorem m9_isI : IsI m9 (-9000000000000000000) := ⟨true, _, _, rfl, by decide +kernel, by decide +kernel⟩
theorem toVal {x : Nat} {V : Int} (h : IsI x V) (h1 : -9100000000000000000 ≤ V) (h2 : V ≤ 9100000000000000000) : floatToIntVal .f64 x .i64 = some V := by
  unfold floatToIntVal
  have e : (FloatKind.f64.decode x).toInt .zero = some V := h.toInt
  have e1 : IntKind.i64.min = -9223372036854775808 := by decide
  have e2 : IntKind.i64.max = 9223372036854775807 := by decide
  rw [e, e1, e2]
  simp only []
  rw [if_pos (by omega)]

theorem read_inf (s : Bool) : D.read (D.write (.infinity s)) = .infinity s := by cases s <;> decide +kernel
theorem inf_c9 {x : Nat} {s : Bool} (h : D.read x = .infinity s) : D.order x c9 = some (if s then .lt else .gt) := by
  unfold Format.order; rw [h]
  show some (if s then Ordering.lt else .gt) = _
  rfl
theorem inf_m9 {x : Nat} {s : Bool} (h : D.read x = .infinity s) : D.order x m9 = some (if s then .lt else .gt) := by
  unfold Format.order; rw [h]
  rfl

/-- package grain's way: rounded first -/
theorem near_prog {x r : Nat} (h : IntR .even x r) : (isNan r = true ∧ nearV x = 0) ∨
    ∃ o1 o2, D.order r m9 = some o1 ∧ D.order r c9 = some o2 ∧ (o1 = .lt → nearV x = 0) ∧ (o2 = .gt → nearV x = 0) ∧ (o1 ≠ .lt → o2 ≠ .gt → floatToIntVal .f64 r .i64 = some (nearV x)) := by
  rcases h with ⟨h1, h2⟩ | ⟨h1, rfl⟩
  · exact .inl ⟨h2, nearV_nan h1⟩
  · right
    cases e : D.read x with
    | nan s t => unfold isNan at h1; rw [e] at h1; cases h1
    | infinity s =>
      have e2 : D.read (D.write ((Datum.infinity s).integral .even)) = .infinity s := read_inf s
      have hz : nearV x = 0 := by unfold nearV; rw [e]
      refine ⟨_, _, inf_m9 e2, inf_c9 e2, fun _ => hz, fun _ => hz, ?_⟩
      cases s <;> simp
    | number s m i =>
      have hI := isI_int (way := .even) (.inl rfl) e
      rw [e] at hI
      refine ⟨_, _, hI.order m9_isI, hI.order c9_isI, ?_, ?_, ?_⟩
      · rw [compare_lt]; intro hlt; unfold nearV; rw [e]; simp only []; rw [if_neg (by omega)]
      · rw [compare_gt]; intro hlt; unfold nearV; rw [e]; simp only []; rw [if_neg (by omega)]
      · rw [Ne, compare_lt, Ne, compare_gt]; intro h3 h4
        have : nearV x = signed s (Toward.even.cut s (m <<< i.toNat) (-i).toNat) 0 := by
          unfold nearV; rw [e]; simp only []; rw [if_pos (by omega)]
        rw [this]
        exact toVal hI (by omega) (by omega)

/-- a number with a fraction is small -/
theorem frac_small {x : Nat} {s : Bool} {m : Nat} {i : Int} (h : D.read x = .number s m i) (hi : i < 0) : D.order x c9 = some .lt ∧ D.order x m9 = some .gt := by
  obtain ⟨hm, hi1, _⟩ := read_fields h
  have hle : 2 ^ (i + 1074).toNat ≤ 2 ^ 1074 := two_pow_le _ 1074 (by omega)
  have hp2 := pow1074
  have hs : signed s m (i + 1074).toNat = ((m * 2 ^ (i + 1074).toNat : Nat) : Int) ∨ signed s m (i + 1074).toNat = -((m * 2 ^ (i + 1074).toNat : Nat) : Int) := by
    rw [signed_eq, Int.natCast_mul]
    cases s
    · left; simp only [sg, Bool.false_eq_true, if_false, Int.one_mul]
    · right; simp only [sg, if_true, Int.neg_mul, Int.one_mul]
  obtain ⟨t1, n1, j1, k1, k2, k3⟩ := c9_isI
  obtain ⟨t2, n2, j2, q1, q2, q3⟩ := m9_isI
  rw [order_sv h k1 hi1 k2, k3, order_sv h q1 hi1 q2, q3]
  generalize hZ : (2 : Nat) ^ 1074 = Z at *
  have hmul : m * 2 ^ (i + 1074).toNat ≤ 9007199254740992 * Z := Nat.mul_le_mul (by omega) hle
  generalize m * 2 ^ (i + 1074).toNat = A at *
  generalize signed s m (i + 1074).toNat = S at *
  exact ⟨congrArg some ((compare_lt _ _).2 (by omega)), congrArg some ((compare_gt _ _).2 (by omega))⟩

/-- the reference's way: the floor first -/
theorem near_ref (x : Nat) : (isNan x = true ∧ nearV x = 0) ∨
    isNan x = false ∧ ∃ o1 o2, D.order x c9 = some o1 ∧ D.order x m9 = some o2 ∧ (o1 = .gt → nearV x = 0) ∧ (o2 = .lt → nearV x = 0) ∧
      (o1 ≠ .gt → o2 ≠ .lt → ∀ f, IntR .down x f → ∃ V o, floatToIntVal .f64 f .i64 = some V ∧ -9100000000000000000 ≤ V ∧ V ≤ 9100000000000000000 ∧ D.order (fsub x f) half = some o ∧
        nearV x = if o = .gt ∨ o = .eq ∧ V.tmod 2 ≠ 0 then V + 1 else V) := by
  cases hn : isNan x with
  | true => exact .inl ⟨rfl, nearV_nan hn⟩
  | false =>
    refine .inr ⟨rfl, ?_⟩
    cases e : D.read x with
    | nan s t => unfold isNan at hn; rw [e] at hn; cases hn
    | infinity s =>
      have hz : nearV x = 0 := by unfold nearV; rw [e]
      refine ⟨_, _, inf_c9 e, inf_m9 e, fun _ => hz, fun _ => hz, ?_⟩
      cases s <;> simp
    | number s m i =>
      obtain ⟨hm, hi1, hi2⟩ := read_fields e
      have hD := isI_int (way := .down) (.inr rfl) e
      by_cases hi : i < 0
      · obtain ⟨h1, h2⟩ := frac_small e hi
        refine ⟨_, _, h1, h2, (by simp), (by simp), ?_⟩
        intro _ _ f hf
        rcases hf with ⟨hf, _⟩ | ⟨_, rfl⟩
        · rw [hn] at hf; cases hf
        · have e0 : i.toNat = 0 := by omega
          rw [e0, Nat.shiftLeft_zero] at hD
          obtain ⟨o, ho, hv⟩ := diff_law e hi hD
          obtain ⟨b, hb1, hb2, _⟩ := way_cut (way := .down) (.inr rfl) s m (-i).toNat
          obtain ⟨b', hb1', hb2', _⟩ := way_cut (way := .even) (.inl rfl) s m (-i).toNat
          have hq : m / 2 ^ (-i).toNat ≤ m := Nat.div_le_self _ _
          have hbd : -9007199254740993 ≤ signed s (Toward.down.cut s m (-i).toNat) 0 ∧ signed s (Toward.down.cut s m (-i).toNat) 0 ≤ 9007199254740993 := by
            rw [signed0, hb2]
            generalize m / 2 ^ (-i).toNat = q at hq ⊢
            cases s <;> simp only [sg, if_true, Bool.false_eq_true, if_false] <;> omega
          have hbe : -9007199254740993 ≤ signed s (Toward.even.cut s m (-i).toNat) 0 ∧ signed s (Toward.even.cut s m (-i).toNat) 0 ≤ 9007199254740993 := by
            rw [signed0, hb2']
            generalize m / 2 ^ (-i).toNat = q at hq ⊢
            cases s <;> simp only [sg, if_true, Bool.false_eq_true, if_false] <;> omega
          refine ⟨_, o, toVal hD (by omega) (by omega), by omega, by omega, ho, ?_⟩
          rw [hv]
          unfold nearV; rw [e]; simp only []
          rw [e0, Nat.shiftLeft_zero, if_pos (by omega)]
      · have e0 : (-i).toNat = 0 := by omega
        have hc : ∀ way : Toward, way = .even ∨ way = .down → way.cut s (m <<< i.toNat) (-i).toNat = m <<< i.toNat := by
          intro way hw
          obtain ⟨b, hb1, hb2, hb3⟩ := way_cut hw s (m <<< i.toNat) (-i).toNat
          rw [hb2, hb3 (by rw [e0, Nat.pow_zero, Nat.mod_one]), e0, Nat.pow_zero, Nat.div_one, Nat.add_zero]
        have hx : IsI x (signed s (m <<< i.toNat) 0) := by
          refine ⟨s, m, i, e, hi1, ?_⟩
          rw [signed_scale _ _ _ 1074, signed_shift]
          congr 1; omega
        have hnv : nearV x = if -9000000000000000000 ≤ signed s (m <<< i.toNat) 0 ∧ signed s (m <<< i.toNat) 0 ≤ 9000000000000000000 then signed s (m <<< i.toNat) 0 else 0 := by
          unfold nearV; rw [e]; simp only []; rw [hc .even (.inl rfl)]
        refine ⟨_, _, hx.order c9_isI, hx.order m9_isI, ?_, ?_, ?_⟩
        · rw [compare_gt, hnv]; intro h; rw [if_neg (by omega)]
        · rw [compare_lt, hnv]; intro h; rw [if_neg (by omega)]
        · rw [Ne, compare_gt, Ne, compare_lt]
          intro h1 h2 f hf
          rcases hf with ⟨hf, _⟩ | ⟨_, rfl⟩
          · rw [hn] at hf; cases hf
          · rw [hc .down (.inr rfl)] at hD
            refine ⟨_, .lt, toVal hD (by omega) (by omega), by omega, by omega, ?_, ?_⟩
            · exact diff_zero hx hD
            · rw [hnv, if_pos (by omega)]; simp
end Go.Proofs.YtegbkidjehjhmaaDoor
