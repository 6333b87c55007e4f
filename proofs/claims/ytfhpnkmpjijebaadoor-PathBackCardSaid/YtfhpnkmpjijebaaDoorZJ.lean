/- The model's entries that make a number whole. -/
import Derived.Test.YtfhpnkmpjijebaaDoorZI
import Derived.Laws.FloatArith
import Derived.IntWalk
namespace Go.Proofs.YtfhpnkmpjijebaaDoor
open Go.RowKit Go.Fp Go.Rel
set_option maxRecDepth 20000

/-- a number made whole -/
def intP (way : Ieee.Toward) (x : Nat) : Nat := if isNan x then QN else D.write ((D.read x).integral way)

theorem int_run {P : Program} (W : World) (nm : String) (way : Ieee.Toward) (x : Nat) (hx : isNan x = false) :
    (Extern.MathFloor.toIntegral nm way #[.float .f64 x]).run P W = .ok (.float .f64 (D.write ((D.read x).integral way))) W := by
  unfold isNan at hx
  show (match D.read x with
    | .nan s t =>
      if FloatKind.f64.format.quiet t = t then pure (Value.float .f64 x) else do
      let kept ← choose (.extern "math.Floor,Ceil,Trunc,RoundToEven.signallingNaN kept" 2)
      pure (.float .f64 (if kept == 1 then x else FloatKind.f64.encode (.nan s (FloatKind.f64.format.quiet t))))
    | d => pure (.float .f64 (FloatKind.f64.encode (d.integral way))) : Sem Value).run P W = _
  cases e : D.read x with
  | nan s t => rw [e] at hx; simp [Ieee.Datum.isNaN] at hx
  | infinity s => rfl
  | number s m i => rfl
theorem isNan_word_nan (s : Bool) {q : Nat} (h0 : 0 < q) (h : q < 2 ^ 52) : isNan (D.word s (D.infRung + q)) = true := by
  have e1 : D.signWeight = 2 ^ 63 := by decide +kernel
  have e2 : D.infRung = 0x7ff0000000000000 := by decide +kernel
  have e3 : D.binade = 2 ^ 52 := by decide +kernel
  have hm : D.word s (D.infRung + q) % 2 ^ 63 = 0x7ff0000000000000 + q := by
    unfold Ieee.Format.word
    cases s
    · simp only [e1, e2, Bool.false_eq_true, if_false]; omega
    · simp only [e1, e2, if_true]; omega
  unfold isNan Ieee.Format.read
  simp only [e1, e2, e3] at hm ⊢
  rw [hm, if_neg (by omega), if_neg (by omega), if_neg (by omega)]
  rfl
theorem quiet_ne (t : Nat) : 0 < (FloatKind.f64.format.quiet t) % 2 ^ 52 := by
  have h : FloatKind.f64.format.quiet t = t ||| 2 ^ 51 := rfl
  have hb : ((t ||| 2 ^ 51) % 2 ^ 52).testBit 51 = true := by
    have h51 : Nat.testBit (2 ^ 51) 51 = true := by decide
    rw [Nat.testBit_mod_two_pow, Nat.testBit_or, h51]
    simp
  rw [h]
  rcases Nat.eq_zero_or_pos ((t ||| 2 ^ 51) % 2 ^ 52) with e | e
  · rw [e] at hb; simp at hb
  · exact e
theorem isNan_quiet (s : Bool) (t : Nat) : isNan (D.write (.nan s (FloatKind.f64.format.quiet t))) = true := by
  have e3 : D.binade = 2 ^ 52 := by decide +kernel
  show isNan (D.word s (D.infRung + (FloatKind.f64.format.quiet t) % D.binade)) = true
  rw [e3]
  exact isNan_word_nan s (quiet_ne t) (Nat.mod_lt _ (by decide))
theorem int_run_nan {P : Program} (W : World) (nm : String) (way : Ieee.Toward) (x : Nat) (hx : isNan x = true) :
    ∃ r n, (Extern.MathFloor.toIntegral nm way #[.float .f64 x]).run P W = .ok (.float .f64 r) (W.drewN n) ∧ isNan r = true := by
  obtain ⟨s, t, e⟩ := read_nan hx
  have h0 : Extern.MathFloor.toIntegral nm way #[.float .f64 x] = (if FloatKind.f64.format.quiet t = t then pure (Value.float .f64 x) else do
      let kept ← choose (.extern "math.Floor,Ceil,Trunc,RoundToEven.signallingNaN kept" 2)
      pure (.float .f64 (if kept == 1 then x else FloatKind.f64.encode (.nan s (FloatKind.f64.format.quiet t))))) := by
    show (match D.read x with
      | .nan s t =>
        if FloatKind.f64.format.quiet t = t then pure (Value.float .f64 x) else do
        let kept ← choose (.extern "math.Floor,Ceil,Trunc,RoundToEven.signallingNaN kept" 2)
        pure (.float .f64 (if kept == 1 then x else FloatKind.f64.encode (.nan s (FloatKind.f64.format.quiet t))))
      | d => pure (.float .f64 (FloatKind.f64.encode (d.integral way))) : Sem Value) = _
    rw [e]
  rw [h0]
  by_cases hq : FloatKind.f64.format.quiet t = t
  · rw [if_pos hq]
    exact ⟨x, 0, rfl, hx⟩
  · rw [if_neg hq]
    refine ⟨_, 1, rfl, ?_⟩
    split
    · exact hx
    · exact isNan_quiet s t
/-- a whole number of a number, or no number -/
theorem int_any {P : Program} (W : World) (nm : String) (way : Ieee.Toward) (x : Nat) :
    ∃ r n, (Extern.MathFloor.toIntegral nm way #[.float .f64 x]).run P W = .ok (.float .f64 r) (W.drewN n) ∧ (isNan x = true ∧ isNan r = true ∨ isNan x = false ∧ r = D.write ((D.read x).integral way)) := by
  cases hx : isNan x
  · exact ⟨_, 0, int_run W nm way x hx, .inr ⟨rfl, rfl⟩⟩
  · obtain ⟨r, n, h1, h2⟩ := int_run_nan (P := P) W nm way x hx
    exact ⟨r, n, h1, .inl ⟨rfl, h2⟩⟩
end Go.Proofs.YtfhpnkmpjijebaaDoor

/- Walks: math.Floor; how RoundToEven is met. -/
namespace Go.Proofs.YtfhpnkmpjijebaaDoor
open Go.RowKit Go.Fp Go.Rel
set_option maxRecDepth 20000

def IntR (way : Ieee.Toward) (x r : Nat) : Prop := isNan x = true ∧ isNan r = true ∨ isNan x = false ∧ r = D.write ((D.read x).integral way)
theorem upon_int {P : Program} {o : Oper} {a : Act} {K : Act → World → Prop} {Q : Exit → Act → World → Prop} {W : World} {f : FuncId} {x : Nat} {nm : String} {way : Ieee.Toward} (he : Entry P f (Extern.MathFloor.toIntegral nm way))
    (h : ∀ r n, IntR way x r → o.upon P a K Q (.ok (.value (.float .f64 r)) (W.drewN n))) : o.upon P a K Q ((callFunc f #[.float .f64 x]).run P W) := by
  rw [he]
  obtain ⟨r, n, e, hr⟩ := int_any (P := P) W nm way x
  rw [e]
  exact h r n hr
theorem round_entry : Entry Tryd.prog 37 (Extern.MathFloor.toIntegral "math.RoundToEven" .even) := fun args w => run_callFunc_extern Tryd.func37 (by kernel_rfl) (by kernel_rfl) (by kernel_rfl) (by kernel_rfl) args w
end Go.Proofs.YtfhpnkmpjijebaaDoor

/- The nearest angle of a number of radians: how package grain finds it, how the reference does. -/
namespace Go.Proofs.YtfhpnkmpjijebaaDoor
open Go.RowKit Go.Fp Go.Rel Ieee

/-- the whole number nearest to a number; 0 of what is too great -/
def nearV (x : Nat) : Int := match D.read x with
  | .number s m i => if -9000000000000000000 ≤ signed s (Toward.even.cut s (m <<< i.toNat) (-i).toNat) 0 ∧ signed s (Toward.even.cut s (m <<< i.toNat) (-i).toNat) 0 ≤ 9000000000000000000
      then signed s (Toward.even.cut s (m <<< i.toNat) (-i).toNat) 0 else 0
  | _ => 0
theorem nearV_nan {x : Nat} (h : isNan x = true) : nearV x = 0 := by
  obtain ⟨s, t, e⟩ := read_nan h
  unfold nearV; rw [e]

theorem c9_isI : IsI c9 9000000000000000000 := ⟨false, _, _, rfl, by decide +kernel, by decide +kernel⟩
theorem m9_isI : IsI m9 (-9000000000000000000) := ⟨true, _, _, rfl, by decide +kernel, by decide +kernel⟩
theorem toVal {x : Nat} {V : Int} (h : IsI x V) (h1 : -9100000000000000000 ≤ V) (h2 : V ≤ 9100000000000000000) : floatToIntVal .f64 x .i64 = some V := by
  unfold floatToIntVal
  have e : (FloatKind.f64.decode x).toInt .zero = some V := h.toInt
  have e1 : IntKind.i64.min = -9223372036854775808 := by decide
  have e2 : IntKind.i64.max = 9223372036854775807 := by decide
  rw [e, e1, e2]
  simp only []
  rw [if_pos (by omega)]

theorem read_inf (s : Bool) : D.read (D.write (.infinity s)) = .infinity s := by cases s <;> decide +kernel
theorem inf_c9 {x : Nat} {s : Bool} (h : D.read x = .infinity s) : D.order x c9 = some (if s then .lt else .gt) := by
  unfold Format.order; rw [h]
  show some (if s then Ordering.lt else .gt) = _
  rfl
theorem inf_m9 {x : Nat} {s : Bool} (h : D.read x = .infinity s) : D.order x m9 = some (if s then .lt else .gt) := by
  unfold Format.order; rw [h]
  rfl

/-- package grain's way: rounded first -/
theorem near_prog {x r : Nat} (h : IntR .even x r) : (isNan r = true ∧ nearV x = 0) ∨
    ∃ o1 o2, D.order r m9 = some o1 ∧ D.order r c9 = some o2 ∧ (o1 = .lt → nearV x = 0) ∧ (o2 = .gt → nearV x = 0) ∧ (o1 ≠ .lt → o2 ≠ .gt → floatToIntVal .f64 r .i64 = some (nearV x)) := by
  rcases h with ⟨h1, h2⟩ | ⟨h1, rfl⟩
  · exact .inl ⟨h2, nearV_nan h1⟩
  · right
    cases e : D.read x with
    | nan s t => unfold isNan at h1; rw [e] at h1; cases h1
    | infinity s =>
      have e2 : D.read (D.write ((Datum.infinity s).integral .even)) = .infinity s := read_inf s
      have hz : nearV x = 0 := by unfold nearV; rw [e]
      refine ⟨_, _, inf_m9 e2, inf_c9 e2, fun _ => hz, fun _ => hz, ?_⟩
      cases s <;> simp
    | number s m i =>
      have hI := isI_int (way := .even) (.inl rfl) e
      rw [e] at hI
      refine ⟨_, _, hI.order m9_isI, hI.order c9_isI, ?_, ?_, ?_⟩
      · rw [compare_lt]; intro hlt; unfold nearV; rw [e]; simp only []; rw [if_neg (by omega)]
      · rw [compare_gt]; intro hlt; unfold nearV; rw [e]; simp only []; rw [if_neg (by omega)]
      · rw [Ne, compare_lt, Ne, compare_gt]; intro h3 h4
        have : nearV x = signed s (Toward.even.cut s (m <<< i.toNat) (-i).toNat) 0 := by
          unfold nearV; rw [e]; simp only []; rw [if_pos (by omega)]
        rw [this]
        exact toVal hI (by omega) (by omega)

end Go.Proofs.YtfhpnkmpjijebaaDoor

/- Walks: the nearest angle of a number of radians: package grain's, the reference's. -/
namespace Go.Proofs.YtfhpnkmpjijebaaDoor
open Go.RowKit Go.Fp Go.Rel
set_option maxRecDepth 20000

abbrev cRad : Nat := 4445950764994258515
/-- the nearest angle of a number of radians -/
def nearP (x : Nat) : Int := nearV (fdiv x (can cRad))

theorem conv_run (w : World) {x : Nat} {n : Int} (h : floatToIntVal .f64 x .i64 = some n) : (convert 22 3 (.float .f64 x)).run Tryd.prog w = .ok (.int .i64 n) w :=
  run_convert_float_int w _ _ .f64 .i64 x n (by rw [Tryd.underlying22]; rfl) Tryd.underlying3 h

theorem can_fix {r X : Nat} (h : can r = can X) (hn : isNan X = false) : r = X := by
  have hr : isNan r = false := by rw [← isNan_can, h, isNan_can]; exact hn
  rw [can_of_not hr, can_of_not hn] at h; exact h
/-- package grain's way with a quotient, by cases -/
inductive NearA (X : Nat) : Int → Prop
  | nan (h : ∀ r r2, can r = can X → IntR .even r r2 → FloatKind.f64.format.order r2 14114063095424393472 = none) : NearA X 0
  | low (h : ∀ r r2, can r = can X → IntR .even r r2 → FloatKind.f64.format.order r2 14114063095424393472 = some .lt) : NearA X 0
  | high (o : Ordering) (ho : o = .eq ∨ o = .gt) (h : ∀ r r2, can r = can X → IntR .even r r2 → FloatKind.f64.format.order r2 14114063095424393472 = some o ∧ FloatKind.f64.format.order r2 4890691058569617664 = some .gt) : NearA X 0
  | fit (V : Int) (o o' : Ordering) (ho : o = .eq ∨ o = .gt) (ho' : o' = .eq ∨ o' = .lt) (h : ∀ r r2, can r = can X → IntR .even r r2 → FloatKind.f64.format.order r2 14114063095424393472 = some o ∧
      FloatKind.f64.format.order r2 4890691058569617664 = some o' ∧ ∀ w, (convert 22 3 (.float .f64 r2)).run Tryd.prog w = .ok (.int .i64 V) w) : NearA X V
theorem nearA_some (X : Nat) : NearA X (nearV X) := by
  cases hn : isNan X with
  | true =>
    rw [nearV_nan hn]
    refine .nan fun r r2 hr h2 => ?_
    have hr' : isNan r = true := by rw [← isNan_can, hr, isNan_can]; exact hn
    rcases h2 with ⟨_, h2⟩ | ⟨h2, _⟩
    · exact order_l _ _ h2
    · rw [hr'] at h2; cases h2
  | false =>
    have hI : IntR .even X (D.write ((D.read X).integral .even)) := .inr ⟨hn, rfl⟩
    have hall : ∀ r r2, can r = can X → IntR .even r r2 → r2 = D.write ((D.read X).integral .even) := by
      intro r r2 hr h2
      have := can_fix hr hn
      subst this
      rcases h2 with ⟨h2, _⟩ | ⟨_, h2⟩
      · rw [hn] at h2; cases h2
      · exact h2
    generalize D.write ((D.read X).integral .even) = R at *
    rcases near_prog hI with ⟨h0, hz⟩ | ⟨o1, o2, e1, e2, z1, z2, hv⟩
    · rw [hz]
      exact .nan fun r r2 hr h2 => by rw [hall r r2 hr h2]; exact order_l _ _ h0
    · cases o1 with
      | lt => rw [z1 rfl]; exact .low fun r r2 hr h2 => by rw [hall r r2 hr h2]; exact e1
      | eq =>
        cases o2 with
        | gt => rw [z2 rfl]; exact .high .eq (.inl rfl) fun r r2 hr h2 => by rw [hall r r2 hr h2]; exact ⟨e1, e2⟩
        | eq => exact .fit _ .eq .eq (.inl rfl) (.inl rfl) fun r r2 hr h2 => by rw [hall r r2 hr h2]; exact ⟨e1, e2, fun w => conv_run w (hv (by simp) (by simp))⟩
        | lt => exact .fit _ .eq .lt (.inl rfl) (.inr rfl) fun r r2 hr h2 => by rw [hall r r2 hr h2]; exact ⟨e1, e2, fun w => conv_run w (hv (by simp) (by simp))⟩
      | gt =>
        cases o2 with
        | gt => rw [z2 rfl]; exact .high .gt (.inr rfl) fun r r2 hr h2 => by rw [hall r r2 hr h2]; exact ⟨e1, e2⟩
        | eq => exact .fit _ .gt .eq (.inr rfl) (.inl rfl) fun r r2 hr h2 => by rw [hall r r2 hr h2]; exact ⟨e1, e2, fun w => conv_run w (hv (by simp) (by simp))⟩
        | lt => exact .fit _ .gt .lt (.inr rfl) (.inr rfl) fun r r2 hr h2 => by rw [hall r r2 hr h2]; exact ⟨e1, e2, fun w => conv_run w (hv (by simp) (by simp))⟩

set_option maxHeartbeats 400000 in
theorem nearest_c (x : Nat) (w : World) : Calls Tryd.prog 20 #[.float .f64 x] w (ExR (.int .i64 (nearP (can x))) w) := by
  unfold nearP
  have H := nearA_some (fdiv (can x) (can cRad))
  generalize nearV (fdiv (can x) (can cRad)) = V at *
  rcases H with h | h | ⟨_, rfl | rfl, h⟩ | ⟨_, _, _, rfl | rfl, rfl | rfl, h⟩
  all_goals
    have HH := Lib.hid h
    clear h
    go_enter Tryd.func20, Tryd.ntmps20
    go_wp2_with (first
      | (with_reducible refine upon_fl rfl ?_; intro r n hr)
      | (with_reducible refine upon_int round_entry ?_; go_must (intro r2 n2 hr2; have hf := HH.out r r2 (by rw [hr, can_fdiv]; simp only [fbin]) hr2; (try obtain ⟨e1, e2, e3⟩ := hf); (try obtain ⟨e1, e2⟩ := hf); clear hr hr2 HH)))
    go_ret
    exact ⟨rfl, by repeat (first | exact Ext.refl _ | refine Ext.drewN ?_ _)⟩

/-- the reference's way with a quotient, by cases -/
inductive NearB (X : Nat) : Int → Prop
  | nan (h : ∀ r, can r = can X → FloatKind.f64.format.order r r = none) : NearB X 0
  | high (h : ∀ r, can r = can X → FloatKind.f64.format.order r r = some .eq ∧ FloatKind.f64.format.order r 4890691058569617664 = some .gt) : NearB X 0
  | low (o : Ordering) (ho : o = .eq ∨ o = .lt) (h : ∀ r, can r = can X → FloatKind.f64.format.order r r = some .eq ∧ FloatKind.f64.format.order r 4890691058569617664 = some o ∧ FloatKind.f64.format.order r 14114063095424393472 = some .lt) : NearB X 0
  | fit (V : Int) (o o' q : Ordering) (ho : o = .eq ∨ o = .lt) (ho' : o' = .eq ∨ o' = .gt) (hV : IntKind.i64.wrap (V + 1) = V + 1)
      (h : ∀ r, can r = can X → FloatKind.f64.format.order r r = some .eq ∧ FloatKind.f64.format.order r 4890691058569617664 = some o ∧ FloatKind.f64.format.order r 14114063095424393472 = some o')
      (hf : ∀ r f, can r = can X → IntR .down r f → ∀ w, (convert 22 3 (.float .f64 f)).run Tryd.prog w = .ok (.int .i64 V) w)
      (hd : ∀ r f d, can r = can X → IntR .down r f → can d = fsub (can r) (can f) → FloatKind.f64.format.order d 4602678819172646912 = some q) : NearB X (if q = .gt ∨ q = .eq ∧ V.tmod 2 ≠ 0 then V + 1 else V)
end Go.Proofs.YtfhpnkmpjijebaaDoor

/- The whole number nearest to a float. -/
namespace Go.Fp.Tri
open Go.Fp Ieee
set_option maxRecDepth 20000

theorem cut_near (s : Bool) (m : Nat) (i : Int) : Wn (((Toward.even.cut s (m <<< i.toNat) (-i).toNat : Nat) : Rat) - (m : Rat) * pw i) (1 / 2) := by
  have h := half_of (m <<< i.toNat) (-i).toNat
  rw [← cut_even s] at h
  generalize Toward.even.cut s (m <<< i.toNat) (-i).toNat = C at *
  obtain ⟨k, hk⟩ : ∃ k, k = (-i).toNat := ⟨_, rfl⟩
  rw [← hk] at h
  have e : ((m <<< i.toNat : Nat) : Rat) = (m : Rat) * pw i * pw k := by
    rw [Nat.shiftLeft_eq, Rat.natCast_mul, ← pw_nat]
    have : pw (i.toNat : Int) = pw i * pw k := by rw [← pw_add]; congr 1; omega
    rw [this]
    generalize pw i = a
    generalize pw (k : Int) = b
    grind
  rw [e] at h
  have hp := pw_pos (k : Int)
  refine wn_scaled hp ?_
  refine h.of ?_ ?_
  · generalize pw i = a at *
    generalize pw (k : Int) = b at *
    grind
  · generalize pw (k : Int) = b at *
    grind
end Go.Fp.Tri
namespace Go.Proofs.YtfhpnkmpjijebaaDoor
open Go.Fp Go.Fp.Tri Ieee
set_option maxRecDepth 20000
theorem nearV_err {x : Nat} (fx : Fp.Fin x) (bx : Wn (vl x) 1000000000000) : Wn (((nearV x : Int) : Rat) - vl x) (1 / 2) := by
  obtain ⟨s, m, i, hr⟩ := fx
  have hc := cut_near s m i
  rw [vl_of hr] at bx ⊢
  have hv : nearV x = if -9000000000000000000 ≤ signed s (Toward.even.cut s (m <<< i.toNat) (-i).toNat) 0 ∧ signed s (Toward.even.cut s (m <<< i.toNat) (-i).toNat) 0 ≤ 9000000000000000000 then signed s (Toward.even.cut s (m <<< i.toNat) (-i).toNat) 0 else 0 := by
    unfold nearV; rw [hr]
  rw [hv, signed0]
  generalize Toward.even.cut s (m <<< i.toNat) (-i).toNat = K at *
  have e : vd s m i = ((sg s : Int) : Rat) * ((m : Rat) * pw i) := by unfold vd; generalize pw i = z; grind
  rw [e] at bx ⊢
  generalize (m : Rat) * pw i = v at *
  have hb : (K : Rat) ≤ 1000000000001 := by
    cases s
    · rw [show ((sg false : Int) : Rat) = 1 from rfl] at bx
      obtain ⟨_, _⟩ := hc
      obtain ⟨_, _⟩ := bx
      grind
    · rw [show ((sg true : Int) : Rat) = -1 from rfl] at bx
      obtain ⟨_, _⟩ := hc
      obtain ⟨_, _⟩ := bx
      grind
  have hK : K ≤ 1000000000001 := by
    have h : (K : Rat) ≤ ((1000000000001 : Nat) : Rat) := hb
    exact Rat.natCast_le_natCast.1 h
  cases s
  · have e1 : sg false = 1 := rfl
    rw [e1, Int.one_mul, if_pos (by omega)]
    have : (((K : Nat) : Int) : Rat) = (K : Rat) := rfl
    rw [this]
    have e2 : (((1 : Int)) : Rat) = 1 := rfl
    rw [e2, Rat.one_mul]
    exact hc
  · have e1 : sg true = -1 := rfl
    rw [e1, if_pos (by omega)]
    have : ((-1 * (K : Int) : Int) : Rat) = -(K : Rat) := by push_cast; grind
    rw [this]
    have e2 : (((-1 : Int)) : Rat) = -1 := rfl
    rw [e2]
    obtain ⟨_, _⟩ := hc
    constructor <;> grind
end Go.Proofs.YtfhpnkmpjijebaaDoor

/- Relative errors of float operations on positive numbers. -/
namespace Go.Fp.Tri
open Go.Fp Ieee
set_option maxRecDepth 20000

/-- a float that stands for a positive number, but for so much of it -/
structure Rl (x : Nat) (v ε : Rat) : Prop where
  fx : Fin x
  v0 : 0 < v
  err : Wn (vl x - v) (v * ε)
theorem Rl.mono {x : Nat} {v ε δ : Rat} (h : Rl x v ε) (hle : ε ≤ δ) : Rl x v δ := ⟨h.fx, h.v0, h.err.mono (Rat.mul_le_mul_of_nonneg_left hle (Rat.le_of_lt h.v0))⟩
theorem Rl.exact {x : Nat} (fx : Fin x) (h : 0 < vl x) : Rl x (vl x) 0 := ⟨fx, h, by constructor <;> grind⟩
theorem Rl.e0 {x : Nat} {v ε : Rat} (h : Rl x v ε) : 0 ≤ ε := by
  have := h.err.nonneg
  have k : v * 0 ≤ v * ε := by grind
  exact le_of_scaled h.v0 k
theorem Rl.lo {x : Nat} {v ε : Rat} (h : Rl x v ε) (hε : ε ≤ 1 / 1000000000) : v * (999 / 1000) ≤ vl x := by
  have := Rat.mul_le_mul_of_nonneg_left hε (Rat.le_of_lt h.v0)
  have := h.err.1
  have := h.v0
  grind
theorem Rl.hi {x : Nat} {v ε : Rat} (h : Rl x v ε) (hε : ε ≤ 1 / 1000000000) : vl x ≤ v * (1001 / 1000) := by
  have := Rat.mul_le_mul_of_nonneg_left hε (Rat.le_of_lt h.v0)
  have := h.err.2
  have := h.v0
  grind
theorem Rl.pos {x : Nat} {v ε : Rat} (h : Rl x v ε) (hε : ε ≤ 1 / 1000000000) : 0 < vl x := by
  have := h.lo hε
  have := h.v0
  grind
theorem eta_small : eta ≤ uu / 1000000000000000000000000000000 := by
  have h1 : eta ≤ pw (-200) := pw_mono (by decide)
  have h2 : pw (-200) * 1606938044258990275541962092341162602522202993782792835301376 = 1 := by
    have h := pw_add (-200) 200
    rw [show (-200 + 200 : Int) = 0 by decide, pw_zero] at h
    have h3 : pw 200 = 1606938044258990275541962092341162602522202993782792835301376 := by have := pw_nat 200; exact this
    rw [h3] at h
    exact h.symm
  rw [uu_eq]
  generalize pw (-200) = z at *
  grind
/-- the sizes within which nothing is lost below -/
def Sz (v : Rat) : Prop := 1 / 10000000000000000000000000 ≤ v ∧ v ≤ 10000000000000000000000000
end Go.Fp.Tri

/- How much longer things are, along and across: alike where angles stay, and areas stay where they are to. -/
namespace Go.Fp.Tri
open Go.Fp Ieee
set_option maxRecDepth 20000

theorem Rl.cast {x : Nat} {v u ε : Rat} (h : Rl x v ε) (e : v = u) : Rl x u ε := e ▸ h
end Go.Fp.Tri

/- Float operations keep the order. -/
namespace Go.Fp.Tri
open Go.Fp Ieee
set_option maxRecDepth 20000

theorem near_neg (M : Nat) (base : Int) (hb : M = 0 ∨ base + (M.log2 : Int) ≤ 1022) : vl (D.nearest true M base) = - vl (D.nearest false M base) := by
  rcases hb with rfl | hb
  · rw [near_zero, near_zero]; rfl
  · by_cases hM : M = 0
    · subst hM; rw [near_zero, near_zero]; rfl
    · rw [near_val M base hM hb]
      unfold Format.nearest
      rw [if_neg hM]
      simp only [D_least, D_frac, D_bin]
      generalize hlast : max (base + (M.log2 : Int) - 52) (-1074) = last
      have h2 : -1074 ≤ last := by omega
      have h3 : last = -1074 ∨ last = base + (M.log2 : Int) - 52 := by omega
      obtain ⟨a, ha⟩ : ∃ a, a = (base - last).toNat := ⟨_, rfl⟩
      obtain ⟨k, hk⟩ : ∃ k, k = (last - base).toNat := ⟨_, rfl⟩
      rw [← ha, ← hk]
      have hl := log2_shift_le M a hM
      have hlt := lt_log2 (M <<< a)
      have hne : M <<< a ≠ 0 := by rw [Nat.shiftLeft_eq]; exact Nat.mul_ne_zero hM (by have := Nat.two_pow_pos a; omega)
      have hc53 : Toward.even.cut true (M <<< a) k ≤ 2 ^ 53 := cut_le true _ _ _ (Nat.lt_of_lt_of_le hlt (Nat.pow_le_pow_right (by decide) (by rw [hl]; omega)))
      have hc52 : (last - -1074).toNat = 0 ∨ 2 ^ 52 ≤ Toward.even.cut true (M <<< a) k := by
        rcases h3 with h3 | h3
        · left; omega
        · right
          refine cut_ge' true _ _ _ ?_
          rw [← Nat.le_log2 hne, hl]; omega
      have hc : Toward.even.cut true (M <<< a) k = Toward.even.cut false (M <<< a) k := by rw [cut_even, cut_even]
      rw [hc] at hc53 hc52
      rw [hc]
      generalize Toward.even.cut false (M <<< a) k = kept at *
      obtain ⟨m, p, hr, hp1, hp2⟩ := read_kept true (last - -1074).toNat kept hc53 hc52 (by omega)
      rw [vl_of hr, vd_sign, if_pos rfl]
      have hv : vd false m p = vd false kept last := by
        refine vd_shift false hp1 h2 ?_
        rw [hp2]
        congr 1
      rw [hv, vd_false]
/-- two roundings, of whatever form -/
theorem pos_mono {M N : Nat} {b c : Int} (h : (M : Rat) * pw b ≤ (N : Rat) * pw c) (hN : (N : Rat) * pw c ≤ pw 1022) : vl (D.nearest false M b) ≤ vl (D.nearest false N c) := by
  by_cases hM0 : M = 0
  · subst hM0
    rw [near_zero]
    exact near_pos N c (vd_bound (by rw [vd_false]; exact hN))
  by_cases hN0 : N = 0
  · exfalso
    subst hN0
    have h1 := cast_pos hM0
    have := Rat.mul_pos h1 (pw_pos b)
    simp at h
    grind
  obtain ⟨d, hd⟩ : ∃ d, d = min b c := ⟨_, rfl⟩
  obtain ⟨i, hi⟩ : ∃ i : Nat, (i : Int) = b - d := ⟨(b - d).toNat, by omega⟩
  obtain ⟨j, hj⟩ : ∃ j : Nat, (j : Int) = c - d := ⟨(c - d).toNat, by omega⟩
  have e1 : D.nearest false M b = D.nearest false (M <<< i) d := by rw [nearest_shift false M i d hM0]; congr 1; omega
  have e2 : D.nearest false N c = D.nearest false (N <<< j) d := by rw [nearest_shift false N j d hN0]; congr 1; omega
  have v1 : ((M <<< i : Nat) : Rat) * pw d = (M : Rat) * pw b := by
    rw [Nat.shiftLeft_eq, Rat.natCast_mul, ← pw_nat, show b = (i : Int) + d by omega, pw_add]
    generalize pw d = x
    generalize pw (i : Int) = y
    grind
  have v2 : ((N <<< j : Nat) : Rat) * pw d = (N : Rat) * pw c := by
    rw [Nat.shiftLeft_eq, Rat.natCast_mul, ← pw_nat, show c = (j : Int) + d by omega, pw_add]
    generalize pw d = x
    generalize pw (j : Int) = y
    grind
  rw [e1, e2]
  rw [← v1, ← v2] at h
  rw [← v2] at hN
  have hp := pw_pos d
  have hle : M <<< i ≤ N <<< j := by
    have : pw d * ((M <<< i : Nat) : Rat) ≤ pw d * ((N <<< j : Nat) : Rat) := by rw [Rat.mul_comm, Rat.mul_comm (pw d)]; exact h
    exact Rat.natCast_le_natCast.1 (le_of_scaled hp this)
  exact near_mono d hle (vd_bound (by rw [vd_false]; exact hN))
theorem rnd_mono {s t : Bool} {M N : Nat} {b c : Int} (h : vd s M b ≤ vd t N c) (hM : vd false M b ≤ pw 1022) (hN : vd false N c ≤ pw 1022) : vl (D.nearest s M b) ≤ vl (D.nearest t N c) := by
  have bM := vd_bound hM
  have bN := vd_bound hN
  have pM := near_pos M b bM
  have pN := near_pos N c bN
  rw [vd_sign s, vd_sign t] at h
  rw [vd_false] at *
  have qM : 0 ≤ (M : Rat) * pw b := Rat.mul_nonneg (natle M) (Rat.le_of_lt (pw_pos b))
  have qN : 0 ≤ (N : Rat) * pw c := Rat.mul_nonneg (natle N) (Rat.le_of_lt (pw_pos c))
  cases s <;> cases t
  · simp only [Bool.false_eq_true, if_false] at h
    rw [vd_false] at h
    exact pos_mono h hN
  · simp only [Bool.false_eq_true, if_false, if_true] at h
    rw [vd_false] at h
    rw [near_neg N c bN]
    have z1 : (M : Rat) * pw b = 0 := by grind
    have z2 : (N : Rat) * pw c = 0 := by grind
    have m0 : M = 0 := by
      by_cases hh : M = 0
      · exact hh
      · have := Rat.mul_pos (cast_pos hh) (pw_pos b); grind
    have n0 : N = 0 := by
      by_cases hh : N = 0
      · exact hh
      · have := Rat.mul_pos (cast_pos hh) (pw_pos c); grind
    subst m0 n0
    rw [near_zero, near_zero]
    grind
  · rw [near_neg M b bM]
    grind
  · simp only [if_true] at h
    rw [vd_false] at h
    rw [near_neg M b bM, near_neg N c bN]
    have := pos_mono (M := N) (N := M) (b := c) (c := b) (by grind) hM
    grind
theorem fadd_form {x y : Nat} (hx : Fin x) (hy : Fin y) {B : Rat} (hB : Wn (vl x + vl y) B) : ∃ s M b, fadd x y = D.nearest s M b ∧ vd s M b = vl x + vl y ∧ vd false M b ≤ B := by
  obtain ⟨s, m, i, hx⟩ := hx
  obtain ⟨t, n, j, hy⟩ := hy
  rw [vl_of hx, vl_of hy] at *
  have e1 := signed_vd s m i (min i j) (by omega)
  have e2 := signed_vd t n j (min i j) (by omega)
  have ht := vd_total (signed s m (i - min i j).toNat + signed t n (j - min i j).toNat) (s && t) (min i j)
  have hs : vd s m i + vd t n j = ((signed s m (i - min i j).toNat + signed t n (j - min i j).toNat : Int) : Rat) * pw (min i j) := by
    rw [← e1, ← e2]
    push_cast
    grind
  rw [hs, ← ht] at hB
  rw [hs, ← ht]
  refine ⟨_, _, _, ?_, rfl, abs_vd _ _ _ B hB⟩
  unfold fadd Format.add
  rw [hx, hy]; rfl
theorem fadd_mono {x y x' y' : Nat} (hx : Fin x) (hy : Fin y) (hx' : Fin x') (hy' : Fin y') {B : Rat} (hB : Wn (vl x + vl y) B) (hB' : Wn (vl x' + vl y') B) (hB2 : B ≤ pw 1022) (h : vl x + vl y ≤ vl x' + vl y') : vl (fadd x y) ≤ vl (fadd x' y') := by
  obtain ⟨s, M, b, e1, e2, e3⟩ := fadd_form hx hy hB
  obtain ⟨t, N, c, g1, g2, g3⟩ := fadd_form hx' hy' hB'
  rw [e1, g1]
  exact rnd_mono (by rw [e2, g2]; exact h) (Rat.le_trans e3 hB2) (Rat.le_trans g3 hB2)
end Go.Fp.Tri

/- Quotients keep the order. -/
namespace Go.Fp.Tri
open Go.Fp Ieee
set_option maxRecDepth 20000

end Go.Fp.Tri
