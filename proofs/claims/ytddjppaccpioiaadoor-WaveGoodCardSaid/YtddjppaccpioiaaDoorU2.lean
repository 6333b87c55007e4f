/- Walks: which strips are valid. -/
import Derived.Test.YtddjppaccpioiaaDoorU1
import Derived.Test.YtddjppaccpioiaaDoorZB
namespace Go.Proofs.YtddjppaccpioiaaDoor
open Go.RowKit Go.Fp Go.Rel
set_option maxRecDepth 20000

abbrev stripV (a f : Nat) (mid : Int) (sc : Nat) : Value := .agg #[.float .f64 a, .float .f64 f, .int .i64 mid, .float .f64 sc]
abbrev placeU (lon lat : Int) : Value := .agg #[.int .i64 lon, .int .i64 lat]
abbrev flatU (x y : Nat) : Value := .agg #[.float .f64 x, .float .f64 y]
/-- the error's number of a strip -/
def strP (g : Bool) (sc : Nat) : Int := if g = true then if btw sc 4591870180066957722 4621819117588971520 = true then 0 else 3 else 3
theorem strP_ok {g : Bool} {sc : Nat} (h : strP g sc = 0) : g = true ∧ btw sc 4591870180066957722 4621819117588971520 = true := by
  unfold strP at h
  cases g with
  | false => simp at h
  | true =>
    refine ⟨rfl, ?_⟩
    cases hb : btw sc 4591870180066957722 4621819117588971520 with
    | false => rw [hb] at h; simp at h
    | true => rfl
theorem strP_cases (g : Bool) (sc : Nat) : strP g sc = 0 ∨ strP g sc = 3 := by
  unfold strP
  split
  · split <;> simp
  · simp

set_option maxHeartbeats 4000000 in
theorem svalid_c {A : Nat → Addr} (a f : Nat) (mid : Int) (sc : Nat) (w : World) (h8 : World8 A w) :
    Calls Tryd.prog 64 #[stripV a f mid sc] w fun e w' => ∃ v, e = .returned v ∧ ErrOf A (strP (okG a f) sc) v ∧ Ext w w' := by
  have HV0 : ∀ w, World8 A w → Calls Tryd.prog 38 #[globeV a f] w (ExR (if okG a f then .nilIface else errV (A 2)) w) := fun w h => valid_c a f w h
  generalize okG a f = g at *
  cases g
  · simp only [Bool.false_eq_true, if_false] at HV0
    have HV := Lib.hid HV0
    clear HV0
    go_enter Tryd.func64, Tryd.ntmps64
    go_wp2_with (first
      | (go_at_call 38; go_must (refine (HV.out _ (h8.ext ((Ext.refl w).alloc _))).mono ?_; rintro e w1 ⟨rfl, hx⟩; obtain ⟨hb1, hw⟩ := ext1 hx; have c1 := hb1.cell; clear hx)))
    go_ret
    exact ⟨_, rfl, .shape, hw⟩
  · simp only [if_true] at HV0
    have HV := Lib.hid HV0
    clear HV0
    have hB : Hid (strP true sc = if btw sc 4591870180066957722 4621819117588971520 = true then 0 else 3) := Lib.hid rfl
    go_enter Tryd.func64, Tryd.ntmps64
    go_wp2_with (first
      | (go_at_call 38; go_must (refine (HV.out _ (h8.ext ((Ext.refl w).alloc _))).mono ?_; rintro e w1 ⟨rfl, hx⟩; obtain ⟨hb1, hw⟩ := ext1 hx; have c1 := hb1.cell; have kg := (h8.ext hw).errs.cell 2 (by decide); clear hx)))
    all_goals (first | go_ret | (exfalso; simp_all; done))
    all_goals
      refine ⟨_, rfl, ?_, hw⟩
      rw [hB.out]
      have hD : FloatKind.f64.format = D := rfl
      simp only [hD] at *
      first
        | (rw [if_pos (by simp_all [btw, fge, fle])]; exact .nil)
        | (rw [if_neg (by simp_all [btw, fge, fle]; rename_i p q; rcases q with ⟨q1, q2⟩ | q <;> simp_all)]; exact .shape)
        | (rw [if_neg (by simp_all [btw, fge, fle])]; exact .shape)

set_option maxHeartbeats 4000000 in
theorem stripError_c (a f : Nat) (mid : Int) (sc : Nat) (w : World) :
    Calls Tryd.prog 15 #[stripV a f mid sc] w (ExR (.int .i64 (strP (okG a f) sc)) w) := by
  have HG0 : ∀ w, Calls Tryd.prog 54 #[globeV a f] w (ExR (.int .i64 (if okG a f then 0 else 3)) w) := fun w => globeError_c a f w
  have hB := Lib.hid (between_c sc 4591870180066957722 4621819117588971520)
  unfold strP
  generalize okG a f = g at *
  generalize btw sc 4591870180066957722 4621819117588971520 = b at *
  cases g
  · simp only [Bool.false_eq_true, if_false] at HG0
    have HG := Lib.hid HG0
    clear HG0 hB
    go_enter Tryd.func15, Tryd.ntmps15
    go_wp2_with (first
      | (go_at_call 54; go_must (refine (HG.out _).mono ?_; rintro e w1 ⟨rfl, hx⟩; obtain ⟨hb1, hw⟩ := ext1 hx; have c1 := hb1.cell; clear hx)))
    go_ret
    exact ⟨rfl, hw⟩
  · simp only [if_true] at HG0
    have HG := Lib.hid HG0
    clear HG0
    cases b
    all_goals
      go_enter Tryd.func15, Tryd.ntmps15
      go_wp2_with (first
        | (go_at_call 54; go_must (refine (HG.out _).mono ?_; rintro e w1 ⟨rfl, hx⟩; obtain ⟨hb1, hw⟩ := ext1 hx; have c1 := hb1.cell; clear hx))
        | (go_at_call 55; go_must (refine (hB.out _).mono ?_; rintro e w2 ⟨rfl, hx⟩; replace hw := hw.trans (bareN hx rfl rfl rfl rfl); clear hx)))
      go_ret
      exact ⟨rfl, hw⟩
end Go.Proofs.YtddjppaccpioiaaDoor
