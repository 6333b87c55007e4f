/- Walks: the nearest angle of a number of radians: package grain's, the reference's. -/
import Derived.Test.YtegbkidjehjhmaaDoorNA
import Derived.IntWalk
namespace Go.Proofs.YtegbkidjehjhmaaDoor
open Go.RowKit Go.Fp Go.Rel
set_option maxRecDepth 20000

abbrev cRad : Nat := 4445950764994258515
/-- the nearest angle of a number of radians -/
def nearP (x : Nat) : Int := nearV (fdiv x (can cRad))

theorem conv_run (w : World) {x : Nat} {n : Int} (h : floatToIntVal .f64 x .i64 = some n) : (convert 31 3 (.float .f64 x)).run Tryd.prog w = .ok (.int .i64 n) w :=
  run_convert_float_int w _ _ .f64 .i64 x n (by rw [Tryd.underlying31]; rfl) Tryd.underlying3 h

theorem near_eq {x r : Nat} (hr : can r = fbin BinOp.quo (can x) (can cRad)) : nearV r = nearV (fdiv (can x) (can cRad)) := by
  rw [← nearV_can, hr]; rfl

theorem can_fix {r X : Nat} (h : can r = can X) (hn : isNan X = false) : r = X := by
  have hr : isNan r = false := by rw [← isNan_can, h, isNan_can]; exact hn
  rw [can_of_not hr, can_of_not hn] at h; exact h
/-- package grain's way with a quotient, by cases -/
inductive NearA (X : Nat) : Int → Prop
  | nan (h : ∀ r r2, can r = can X → IntR .even r r2 → FloatKind.f64.format.order r2 14114063095424393472 = none) : NearA X 0
  | low (h : ∀ r r2, can r = can X → IntR .even r r2 → FloatKind.f64.format.order r2 14114063095424393472 = some .lt) : NearA X 0
  | high (o : Ordering) (ho : o = .eq ∨ o = .gt) (h : ∀ r r2, can r = can X → IntR .even r r2 → FloatKind.f64.format.order r2 14114063095424393472 = some o ∧ FloatKind.f64.format.order r2 4890691058569617664 = some .gt) : NearA X 0
  | fit (V : Int) (o o' : Ordering) (ho : o = .eq ∨ o = .gt) (ho' : o' = .eq ∨ o' = .lt) (h : ∀ r r2, can r = can X → IntR .even r r2 → FloatKind.f64.format.order r2 14114063095424393472 = some o ∧
      FloatKind.f64.format.order r2 4890691058569617664 = some o' ∧ ∀ w, (convert 31 3 (.float .f64 r2)).run Tryd.prog w = .ok (.int .i64 V) w) : NearA X V
theorem nearA_some (X : Nat) : NearA X (nearV X) := by
  cases hn : isNan X with
  | true =>
    rw [nearV_nan hn]
    refine .nan fun r r2 hr h2 => ?_
    have hr' : isNan r = true := by rw [← isNan_can, hr, isNan_can]; exact hn
    rcases h2 with ⟨_, h2⟩ | ⟨h2, _⟩
    · exact order_l _ _ h2
    · rw [hr'] at h2; cases h2
  | false =>
    have hI : IntR .even X (D.write ((D.read X).integral .even)) := .inr ⟨hn, rfl⟩
    have hall : ∀ r r2, can r = can X → IntR .even r r2 → r2 = D.write ((D.read X).integral .even) := by
      intro r r2 hr h2
      have := can_fix hr hn
      subst this
      rcases h2 with ⟨h2, _⟩ | ⟨_, h2⟩
      · rw [hn] at h2; cases h2
      · exact h2
    generalize D.write ((D.read X).integral .even) = R at *
    rcases near_prog hI with ⟨h0, hz⟩ | ⟨o1, o2, e1, e2, z1, z2, hv⟩
    · rw [hz]
      exact .nan fun r r2 hr h2 => by rw [hall r r2 hr h2]; exact order_l _ _ h0
    · cases o1 with
      | lt => rw [z1 rfl]; exact .low fun r r2 hr h2 => by rw [hall r r2 hr h2]; exact e1
      | eq =>
        cases o2 with
        | gt => rw [z2 rfl]; exact .high .eq (.inl rfl) fun r r2 hr h2 => by rw [hall r r2 hr h2]; exact ⟨e1, e2⟩
        | eq => exact .fit _ .eq .eq (.inl rfl) (.inl rfl) fun r r2 hr h2 => by rw [hall r r2 hr h2]; exact ⟨e1, e2, fun w => conv_run w (hv (by simp) (by simp))⟩
        | lt => exact .fit _ .eq .lt (.inl rfl) (.inr rfl) fun r r2 hr h2 => by rw [hall r r2 hr h2]; exact ⟨e1, e2, fun w => conv_run w (hv (by simp) (by simp))⟩
      | gt =>
        cases o2 with
        | gt => rw [z2 rfl]; exact .high .gt (.inr rfl) fun r r2 hr h2 => by rw [hall r r2 hr h2]; exact ⟨e1, e2⟩
        | eq => exact .fit _ .gt .eq (.inr rfl) (.inl rfl) fun r r2 hr h2 => by rw [hall r r2 hr h2]; exact ⟨e1, e2, fun w => conv_run w (hv (by simp) (by simp))⟩
        | lt => exact .fit _ .gt .lt (.inr rfl) (.inr rfl) fun r r2 hr h2 => by rw [hall r r2 hr h2]; exact ⟨e1, e2, fun w => conv_run w (hv (by simp) (by simp))⟩

set_option maxHeartbeats 400000 in
theorem nearest_c (x : Nat) (w : World) : Calls Tryd.prog 44 #[.float .f64 x] w (ExR (.int .i64 (nearP (can x))) w) := by
  unfold nearP
  have H := nearA_some (fdiv (can x) (can cRad))
  generalize nearV (fdiv (can x) (can cRad)) = V at *
  rcases H with h | h | ⟨_, rfl | rfl, h⟩ | ⟨_, _, _, rfl | rfl, rfl | rfl, h⟩
  all_goals
    have HH := Lib.hid h
    clear h
    go_enter Tryd.func44, Tryd.ntmps44
    go_wp2_with (first
      | (with_reducible refine upon_fl rfl ?_; intro r n hr)
      | (with_reducible refine upon_int round_entry ?_; go_must (intro r2 n2 hr2; have hf := HH.out r r2 (by rw [hr, can_fdiv]; simp only [fbin]) hr2; (try obtain ⟨e1, e2, e3⟩ := hf); (try obtain ⟨e1, e2⟩ := hf); clear hr hr2 HH)))
    go_ret
    exact ⟨rfl, by repeat (first | exact Ext.refl _ | refine Ext.drewN ?_ _)⟩

/-- the reference's way with a quotient, by cases -/
inductive NearB (X : Nat) : Int → Prop
  | nan (h : ∀ r, can r = can X → FloatKind.f64.format.order r r = none) : NearB X 0
  | high (h : ∀ r, can r = can X → FloatKind.f64.format.order r r = some .eq ∧ FloatKind.f64.format.order r 4890691058569617664 = some .gt) : NearB X 0
  | low (o : Ordering) (ho : o = .eq ∨ o = .lt) (h : ∀ r, can r = can X → FloatKind.f64.format.order r r = some .eq ∧ FloatKind.f64.format.order r 4890691058569617664 = some o ∧ FloatKind.f64.format.order r 14114063095424393472 = some .lt) : NearB X 0
  | fit (V : Int) (o o' q : Ordering) (ho : o = .eq ∨ o = .lt) (ho' : o' = .eq ∨ o' = .gt) (hV : IntKind.i64.wrap (V + 1) = V + 1)
      (h : ∀ r, can r = can X → FloatKind.f64.format.order r r = some .eq ∧ FloatKind.f64.format.order r 4890691058569617664 = some o ∧ FloatKind.f64.format.order r 14114063095424393472 = some o')
      (hf : ∀ r f, can r = can X → IntR .down r f → ∀ w, (convert 31 3 (.float .f64 f)).run Tryd.prog w = .ok (.int .i64 V) w)
      (hd : ∀ r f d, can r = can X → IntR .down r f → can d = fsub (can r) (can f) → FloatKind.f64.format.order d 4602678819172646912 = some q) : NearB X (if q = .gt ∨ q = .eq ∧ V.tmod 2 ≠ 0 then V + 1 else V)
theorem nearB_some (X : Nat) : NearB X (nearV X) := by
  rcases near_ref X with ⟨hn, hz⟩ | ⟨hn, o1, o2, e1, e2, z1, z2, hv⟩
  · rw [hz]
    refine .nan fun r hr => order_l _ _ ?_
    rw [← isNan_can, hr, isNan_can]; exact hn
  · have e0 : D.order X X = some .eq := order_self hn
    have hfit : o1 ≠ .gt → o2 ≠ .lt → (o1 = .eq ∨ o1 = .lt) → (o2 = .eq ∨ o2 = .gt) → NearB X (nearV X) := by
      intro h1 h2 h3 h4
      obtain ⟨V, o, c1, c2, c3, c4, c5⟩ := hv h1 h2 _ (.inr ⟨hn, rfl⟩)
      rw [c5]
      refine .fit V o1 o2 o h3 h4 (IntWalk.i64_in _ ⟨by omega, by omega⟩) (fun r hr => ?_) (fun r f hr hf w => ?_) (fun r f d hr hf hd => ?_)
      · rw [can_fix hr hn]; exact ⟨e0, e1, e2⟩
      · have := can_fix hr hn
        subst this
        rcases hf with ⟨hf, _⟩ | ⟨_, rfl⟩
        · rw [hn] at hf; cases hf
        · exact conv_run w c1
      · have := can_fix hr hn
        subst this
        rcases hf with ⟨hf, _⟩ | ⟨_, rfl⟩
        · rw [hn] at hf; cases hf
        · rw [fsub_can] at hd
          have h1 := order_can d half
          rw [hd] at h1
          have h2 := order_can (fsub r (D.write ((D.read r).integral .down))) half
          rw [can_fsub] at h2
          have hh : D.order d half = some o := h1.symm.trans (h2.trans c4)
          exact hh
    cases o1 with
    | gt => rw [z1 rfl]; exact .high fun r hr => by rw [can_fix hr hn]; exact ⟨e0, e1⟩
    | eq =>
      cases o2 with
      | lt => rw [z2 rfl]; exact .low .eq (.inl rfl) fun r hr => by rw [can_fix hr hn]; exact ⟨e0, e1, e2⟩
      | eq => exact hfit (by simp) (by simp) (.inl rfl) (.inl rfl)
      | gt => exact hfit (by simp) (by simp) (.inl rfl) (.inr rfl)
    | lt =>
      cases o2 with
      | lt => rw [z2 rfl]; exact .low .lt (.inr rfl) fun r hr => by rw [can_fix hr hn]; exact ⟨e0, e1, e2⟩
      | eq => exact hfit (by simp) (by simp) (.inr rfl) (.inl rfl)
      | gt => exact hfit (by simp) (by simp) (.inr rfl) (.inr rfl)

set_option maxHeartbeats 400000 in
theorem nearestTo_c (x : Nat) (w : World) : Calls Tryd.prog 58 #[.float .f64 x] w (ExR (.int .i64 (nearP (can x))) w) := by
  unfold nearP
  have H := nearB_some (fdiv (can x) (can cRad))
  generalize nearV (fdiv (can x) (can cRad)) = V at *
  have tk : Hid True := trivial
  rcases H with h | h | ⟨_, rfl | rfl, h⟩ | ⟨V, o, o', q, ho, ho', hV, h, hf, hd⟩
  rotate_left 4
  · have HH := Lib.hid h
    have HF := Lib.hid hf
    have HD := Lib.hid hd
    clear h hf hd
    have hres : ∀ v, (v = if q = .gt ∨ q = .eq ∧ V.tmod 2 ≠ 0 then V + 1 else V) → (q = .lt ∧ v = V) ∨ (q = .eq ∧ V.tmod 2 = 0 ∧ v = V) ∨ (q = .eq ∧ ¬ V.tmod 2 = 0 ∧ v = V + 1) ∨ (q = .gt ∧ v = V + 1) := by
      intro v hv
      cases q <;> by_cases hm : V.tmod 2 = 0 <;> simp_all
    replace hres := hres _ rfl
    generalize (if q = .gt ∨ q = .eq ∧ V.tmod 2 ≠ 0 then V + 1 else V) = v at *
    rcases hres with ⟨rfl, rfl⟩ | ⟨rfl, hm, rfl⟩ | ⟨rfl, hm, rfl⟩ | ⟨rfl, rfl⟩
    all_goals
      rcases ho with rfl | rfl <;> rcases ho' with rfl | rfl
      all_goals
        go_enter Tryd.func58, Tryd.ntmps58
        go_wp2_with (first
          | (clear tk; with_reducible refine upon_fl rfl ?_; go_must (intro r n hr; obtain ⟨e1, e2, e3⟩ := HH.out r (by rw [hr, can_fdiv]; simp only [fbin])))
          | (go_at_call 86; go_must (refine (floor_c _ _).mono ?_; rintro e w1 ⟨f, rfl, hfi, hx⟩; have hc := HF.out r f (by rw [hr, can_fdiv]; simp only [fbin]) hfi))
          | (with_reducible refine upon_fl rfl ?_; go_must (intro d nd hd2; have hq := HD.out r f d (by rw [hr, can_fdiv]; simp only [fbin]) hfi (by rw [hd2]; simp only [fbin]); clear hd2 hc hfi)))
        go_ret
        exact ⟨rfl, by repeat (first | exact hx.of_drewN | refine Ext.drewN ?_ _)⟩
  all_goals
    have HH := Lib.hid h
    clear h
    go_enter Tryd.func58, Tryd.ntmps58
    go_wp2_with (first
      | (with_reducible refine upon_fl rfl ?_; intro r n hr; have hf := HH.out r (by rw [hr, can_fdiv]; simp only [fbin]); (try obtain ⟨e1, e2, e3⟩ := hf); (try obtain ⟨e1, e2⟩ := hf); clear hr HH))
    go_ret
    exact ⟨rfl, by repeat (first | exact Ext.refl _ | refine Ext.drewN ?_ _)⟩
end Go.Proofs.YtegbkidjehjhmaaDoor
