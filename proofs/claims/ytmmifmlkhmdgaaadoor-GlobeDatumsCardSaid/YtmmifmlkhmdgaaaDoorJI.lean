/- Walks: a datum's error, Far, to and from the other frame, the reference's. Printed by gen_datum.py. -/
import Derived.Test.YtmmifmlkhmdgaaaDoorJH
namespace Go.Proofs.YtmmifmlkhmdgaaaDoor
open Go.RowKit Go.Fp Go.Rel
set_option maxRecDepth 20000

set_option maxHeartbeats 4000000 in
theorem datum_c (X Y Z A B C S : Nat) (w : World) : Calls Tryd.prog 15 #[datV X Y Z A B C S] w (ExR (datV X Y Z A B C S) w) := by
  obtain ⟨hb1, hb2, hw⟩ := ext2 (Ext.refl ((w.alloc (.cells #[.float .f64 X, .float .f64 Y, .float .f64 Z, .float .f64 A, .float .f64 B, .float .f64 C, .float .f64 S] 43)).alloc (.cells #[.float .f64 0, .float .f64 0, .float .f64 0, .float .f64 0, .float .f64 0, .float .f64 0, .float .f64 0] 44)))
  go_enter Tryd.func15, Tryd.ntmps15
  go_wp2_with (first
    | (refine wpList_own rfl 44 _ _ rfl _ _ rfl rfl _ _ hb2 (by kernel_rfl) rfl (by simp [Value.oneCell']) ?_; go_must (intro u bn en sn; replace hw := en w hw (by omega); have kc := bn.cell; clear sn en hb2)))
  exact bodyPost_ret (v := datV X Y Z A B C S) (by simp [results, Tryd.results15, go_sem, kc]) rfl ⟨rfl, hw⟩
theorem btw_inn (x c m : Nat) : btw x m c = inn x c m := rfl
set_option maxHeartbeats 4000000 in
theorem lwithin_c (x c m : Nat) (hm : Op.negFloat .f64 c = m) (w : World) : Calls Tryd.prog 13 #[.float .f64 x, .float .f64 c] w (ExR (.bool (inn x c m)) w) := by
  cases h2 : fle x c with
  | false =>
    have hI : Hid (inn x c m = false) := Lib.hid (by unfold inn; rw [h2]; simp)
    have G2 : (FloatKind.f64.format.order x c == some .lt || FloatKind.f64.format.order x c == some .eq) = false := h2
    clear h2
    go_enter Tryd.func13, Tryd.ntmps13
    go_wp2_with fail
    all_goals go_ret
    all_goals exact ⟨by rw [hI.out]; rfl, Ext.refl _⟩
  | true =>
    have hI : Hid (inn x c m = fge x m) := Lib.hid (by unfold inn; rw [h2]; simp)
    have G2 : (FloatKind.f64.format.order x c == some .lt || FloatKind.f64.format.order x c == some .eq) = true := h2
    clear h2
    cases h1 : fge x m with
    | false =>
      have G1 : (FloatKind.f64.format.order x m == some .gt || FloatKind.f64.format.order x m == some .eq) = false := h1
      have HH := Lib.hid h1
      clear h1
      go_enter Tryd.func13, Tryd.ntmps13
      go_wp2_with fail
      all_goals go_ret
      all_goals exact ⟨by rw [hI.out, HH.out]; rfl, Ext.refl _⟩
    | true =>
      have G1 : (FloatKind.f64.format.order x m == some .gt || FloatKind.f64.format.order x m == some .eq) = true := h1
      have HH := Lib.hid h1
      clear h1
      go_enter Tryd.func13, Tryd.ntmps13
      go_wp2_with fail
      all_goals go_ret
      all_goals exact ⟨by rw [hI.out, HH.out]; rfl, Ext.refl _⟩

set_option maxHeartbeats 16000000 in
theorem datumError_c (X Y Z A B C S : Nat) (w : World) : Calls Tryd.prog 17 #[datV X Y Z A B C S] w (ExR (.int .i64 (dK (okD X Y Z A B C S))) w) := by
  unfold okD
  have GX := fun w => between_c X m1e5 c1e5 w
  have GY := fun w => between_c Y m1e5 c1e5 w
  have GZ := fun w => between_c Z m1e5 c1e5 w
  have GA := fun w => between_c A m1m3 c1m3 w
  have GB := fun w => between_c B m1m3 c1m3 w
  have GC := fun w => between_c C m1m3 c1m3 w
  have GS := fun w => between_c S m1e3 c1e3 w
  simp only [btw_inn] at GX GY GZ GA GB GC GS
  generalize inn X c1e5 m1e5 = bX at *
  generalize inn Y c1e5 m1e5 = bY at *
  generalize inn Z c1e5 m1e5 = bZ at *
  generalize inn A c1m3 m1m3 = bA at *
  generalize inn B c1m3 m1m3 = bB at *
  generalize inn C c1m3 m1m3 = bC at *
  generalize inn S c1e3 m1e3 = bS at *
  have HX := Lib.hid GX
  have HY := Lib.hid GY
  have HZ := Lib.hid GZ
  have HA := Lib.hid GA
  have HB := Lib.hid GB
  have HC := Lib.hid GC
  have HS := Lib.hid GS
  clear GX GY GZ GA GB GC GS
  have tkF : Hid True := trivial
  cases bX
  case false =>
    go_enter Tryd.func17, Tryd.ntmps17
    go_wp2_with (first
      | (go_at_call 62; clear tkF; (with_reducible refine (HX.out _).mono ?_); go_must (rintro e w1 ⟨rfl, hx⟩; obtain ⟨hb1, hw⟩ := ext1 hx; clear hx; have c1 := hb1.cell))
      | (go_at_call 62; (with_reducible refine (HY.out _).mono ?_); go_must (rintro e w2 ⟨rfl, hx⟩; replace hw := hw.trans (bareN hx rfl rfl rfl rfl); replace hb1 := hb1.ext (bareN hx rfl rfl rfl rfl); clear hx c1; have c1 := hb1.cell))
      | (go_at_call 62; (with_reducible refine (HZ.out _).mono ?_); go_must (rintro e w2 ⟨rfl, hx⟩; replace hw := hw.trans (bareN hx rfl rfl rfl rfl); replace hb1 := hb1.ext (bareN hx rfl rfl rfl rfl); clear hx c1; have c1 := hb1.cell))
      | (go_at_call 62; (with_reducible refine (HA.out _).mono ?_); go_must (rintro e w2 ⟨rfl, hx⟩; replace hw := hw.trans (bareN hx rfl rfl rfl rfl); replace hb1 := hb1.ext (bareN hx rfl rfl rfl rfl); clear hx c1; have c1 := hb1.cell))
      | (go_at_call 62; (with_reducible refine (HB.out _).mono ?_); go_must (rintro e w2 ⟨rfl, hx⟩; replace hw := hw.trans (bareN hx rfl rfl rfl rfl); replace hb1 := hb1.ext (bareN hx rfl rfl rfl rfl); clear hx c1; have c1 := hb1.cell))
      | (go_at_call 62; (with_reducible refine (HC.out _).mono ?_); go_must (rintro e w2 ⟨rfl, hx⟩; replace hw := hw.trans (bareN hx rfl rfl rfl rfl); replace hb1 := hb1.ext (bareN hx rfl rfl rfl rfl); clear hx c1; have c1 := hb1.cell))
      | (go_at_call 62; (with_reducible refine (HS.out _).mono ?_); go_must (rintro e w2 ⟨rfl, hx⟩; replace hw := hw.trans (bareN hx rfl rfl rfl rfl); replace hb1 := hb1.ext (bareN hx rfl rfl rfl rfl); clear hx c1; have c1 := hb1.cell)))
    go_ret
    exact ⟨by first | rfl | simp [dK], hw⟩
  case true =>
    cases bY
    case false =>
      go_enter Tryd.func17, Tryd.ntmps17
      go_wp2_with (first
        | (go_at_call 62; clear tkF; (with_reducible refine (HX.out _).mono ?_); go_must (rintro e w1 ⟨rfl, hx⟩; obtain ⟨hb1, hw⟩ := ext1 hx; clear hx; have c1 := hb1.cell))
        | (go_at_call 62; (with_reducible refine (HY.out _).mono ?_); go_must (rintro e w2 ⟨rfl, hx⟩; replace hw := hw.trans (bareN hx rfl rfl rfl rfl); replace hb1 := hb1.ext (bareN hx rfl rfl rfl rfl); clear hx c1; have c1 := hb1.cell))
        | (go_at_call 62; (with_reducible refine (HZ.out _).mono ?_); go_must (rintro e w2 ⟨rfl, hx⟩; replace hw := hw.trans (bareN hx rfl rfl rfl rfl); replace hb1 := hb1.ext (bareN hx rfl rfl rfl rfl); clear hx c1; have c1 := hb1.cell))
        | (go_at_call 62; (with_reducible refine (HA.out _).mono ?_); go_must (rintro e w2 ⟨rfl, hx⟩; replace hw := hw.trans (bareN hx rfl rfl rfl rfl); replace hb1 := hb1.ext (bareN hx rfl rfl rfl rfl); clear hx c1; have c1 := hb1.cell))
        | (go_at_call 62; (with_reducible refine (HB.out _).mono ?_); go_must (rintro e w2 ⟨rfl, hx⟩; replace hw := hw.trans (bareN hx rfl rfl rfl rfl); replace hb1 := hb1.ext (bareN hx rfl rfl rfl rfl); clear hx c1; have c1 := hb1.cell))
        | (go_at_call 62; (with_reducible refine (HC.out _).mono ?_); go_must (rintro e w2 ⟨rfl, hx⟩; replace hw := hw.trans (bareN hx rfl rfl rfl rfl); replace hb1 := hb1.ext (bareN hx rfl rfl rfl rfl); clear hx c1; have c1 := hb1.cell))
        | (go_at_call 62; (with_reducible refine (HS.out _).mono ?_); go_must (rintro e w2 ⟨rfl, hx⟩; replace hw := hw.trans (bareN hx rfl rfl rfl rfl); replace hb1 := hb1.ext (bareN hx rfl rfl rfl rfl); clear hx c1; have c1 := hb1.cell)))
      go_ret
      exact ⟨by first | rfl | simp [dK], hw⟩
    case true =>
      cases bZ
      case false =>
        go_enter Tryd.func17, Tryd.ntmps17
        go_wp2_with (first
          | (go_at_call 62; clear tkF; (with_reducible refine (HX.out _).mono ?_); go_must (rintro e w1 ⟨rfl, hx⟩; obtain ⟨hb1, hw⟩ := ext1 hx; clear hx; have c1 := hb1.cell))
          | (go_at_call 62; (with_reducible refine (HY.out _).mono ?_); go_must (rintro e w2 ⟨rfl, hx⟩; replace hw := hw.trans (bareN hx rfl rfl rfl rfl); replace hb1 := hb1.ext (bareN hx rfl rfl rfl rfl); clear hx c1; have c1 := hb1.cell))
          | (go_at_call 62; (with_reducible refine (HZ.out _).mono ?_); go_must (rintro e w2 ⟨rfl, hx⟩; replace hw := hw.trans (bareN hx rfl rfl rfl rfl); replace hb1 := hb1.ext (bareN hx rfl rfl rfl rfl); clear hx c1; have c1 := hb1.cell))
          | (go_at_call 62; (with_reducible refine (HA.out _).mono ?_); go_must (rintro e w2 ⟨rfl, hx⟩; replace hw := hw.trans (bareN hx rfl rfl rfl rfl); replace hb1 := hb1.ext (bareN hx rfl rfl rfl rfl); clear hx c1; have c1 := hb1.cell))
          | (go_at_call 62; (with_reducible refine (HB.out _).mono ?_); go_must (rintro e w2 ⟨rfl, hx⟩; replace hw := hw.trans (bareN hx rfl rfl rfl rfl); replace hb1 := hb1.ext (bareN hx rfl rfl rfl rfl); clear hx c1; have c1 := hb1.cell))
          | (go_at_call 62; (with_reducible refine (HC.out _).mono ?_); go_must (rintro e w2 ⟨rfl, hx⟩; replace hw := hw.trans (bareN hx rfl rfl rfl rfl); replace hb1 := hb1.ext (bareN hx rfl rfl rfl rfl); clear hx c1; have c1 := hb1.cell))
          | (go_at_call 62; (with_reducible refine (HS.out _).mono ?_); go_must (rintro e w2 ⟨rfl, hx⟩; replace hw := hw.trans (bareN hx rfl rfl rfl rfl); replace hb1 := hb1.ext (bareN hx rfl rfl rfl rfl); clear hx c1; have c1 := hb1.cell)))
        go_ret
        exact ⟨by first | rfl | simp [dK], hw⟩
      case true =>
        cases bA
        case false =>
          go_enter Tryd.func17, Tryd.ntmps17
          go_wp2_with (first
            | (go_at_call 62; clear tkF; (with_reducible refine (HX.out _).mono ?_); go_must (rintro e w1 ⟨rfl, hx⟩; obtain ⟨hb1, hw⟩ := ext1 hx; clear hx; have c1 := hb1.cell))
            | (go_at_call 62; (with_reducible refine (HY.out _).mono ?_); go_must (rintro e w2 ⟨rfl, hx⟩; replace hw := hw.trans (bareN hx rfl rfl rfl rfl); replace hb1 := hb1.ext (bareN hx rfl rfl rfl rfl); clear hx c1; have c1 := hb1.cell))
            | (go_at_call 62; (with_reducible refine (HZ.out _).mono ?_); go_must (rintro e w2 ⟨rfl, hx⟩; replace hw := hw.trans (bareN hx rfl rfl rfl rfl); replace hb1 := hb1.ext (bareN hx rfl rfl rfl rfl); clear hx c1; have c1 := hb1.cell))
            | (go_at_call 62; (with_reducible refine (HA.out _).mono ?_); go_must (rintro e w2 ⟨rfl, hx⟩; replace hw := hw.trans (bareN hx rfl rfl rfl rfl); replace hb1 := hb1.ext (bareN hx rfl rfl rfl rfl); clear hx c1; have c1 := hb1.cell))
            | (go_at_call 62; (with_reducible refine (HB.out _).mono ?_); go_must (rintro e w2 ⟨rfl, hx⟩; replace hw := hw.trans (bareN hx rfl rfl rfl rfl); replace hb1 := hb1.ext (bareN hx rfl rfl rfl rfl); clear hx c1; have c1 := hb1.cell))
            | (go_at_call 62; (with_reducible refine (HC.out _).mono ?_); go_must (rintro e w2 ⟨rfl, hx⟩; replace hw := hw.trans (bareN hx rfl rfl rfl rfl); replace hb1 := hb1.ext (bareN hx rfl rfl rfl rfl); clear hx c1; have c1 := hb1.cell))
            | (go_at_call 62; (with_reducible refine (HS.out _).mono ?_); go_must (rintro e w2 ⟨rfl, hx⟩; replace hw := hw.trans (bareN hx rfl rfl rfl rfl); replace hb1 := hb1.ext (bareN hx rfl rfl rfl rfl); clear hx c1; have c1 := hb1.cell)))
          go_ret
          exact ⟨by first | rfl | simp [dK], hw⟩
        case true =>
          cases bB
          case false =>
            go_enter Tryd.func17, Tryd.ntmps17
            go_wp2_with (first
              | (go_at_call 62; clear tkF; (with_reducible refine (HX.out _).mono ?_); go_must (rintro e w1 ⟨rfl, hx⟩; obtain ⟨hb1, hw⟩ := ext1 hx; clear hx; have c1 := hb1.cell))
              | (go_at_call 62; (with_reducible refine (HY.out _).mono ?_); go_must (rintro e w2 ⟨rfl, hx⟩; replace hw := hw.trans (bareN hx rfl rfl rfl rfl); replace hb1 := hb1.ext (bareN hx rfl rfl rfl rfl); clear hx c1; have c1 := hb1.cell))
              | (go_at_call 62; (with_reducible refine (HZ.out _).mono ?_); go_must (rintro e w2 ⟨rfl, hx⟩; replace hw := hw.trans (bareN hx rfl rfl rfl rfl); replace hb1 := hb1.ext (bareN hx rfl rfl rfl rfl); clear hx c1; have c1 := hb1.cell))
              | (go_at_call 62; (with_reducible refine (HA.out _).mono ?_); go_must (rintro e w2 ⟨rfl, hx⟩; replace hw := hw.trans (bareN hx rfl rfl rfl rfl); replace hb1 := hb1.ext (bareN hx rfl rfl rfl rfl); clear hx c1; have c1 := hb1.cell))
              | (go_at_call 62; (with_reducible refine (HB.out _).mono ?_); go_must (rintro e w2 ⟨rfl, hx⟩; replace hw := hw.trans (bareN hx rfl rfl rfl rfl); replace hb1 := hb1.ext (bareN hx rfl rfl rfl rfl); clear hx c1; have c1 := hb1.cell))
              | (go_at_call 62; (with_reducible refine (HC.out _).mono ?_); go_must (rintro e w2 ⟨rfl, hx⟩; replace hw := hw.trans (bareN hx rfl rfl rfl rfl); replace hb1 := hb1.ext (bareN hx rfl rfl rfl rfl); clear hx c1; have c1 := hb1.cell))
              | (go_at_call 62; (with_reducible refine (HS.out _).mono ?_); go_must (rintro e w2 ⟨rfl, hx⟩; replace hw := hw.trans (bareN hx rfl rfl rfl rfl); replace hb1 := hb1.ext (bareN hx rfl rfl rfl rfl); clear hx c1; have c1 := hb1.cell)))
            go_ret
            exact ⟨by first | rfl | simp [dK], hw⟩
          case true =>
            cases bC
            case false =>
              go_enter Tryd.func17, Tryd.ntmps17
              go_wp2_with (first
                | (go_at_call 62; clear tkF; (with_reducible refine (HX.out _).mono ?_); go_must (rintro e w1 ⟨rfl, hx⟩; obtain ⟨hb1, hw⟩ := ext1 hx; clear hx; have c1 := hb1.cell))
                | (go_at_call 62; (with_reducible refine (HY.out _).mono ?_); go_must (rintro e w2 ⟨rfl, hx⟩; replace hw := hw.trans (bareN hx rfl rfl rfl rfl); replace hb1 := hb1.ext (bareN hx rfl rfl rfl rfl); clear hx c1; have c1 := hb1.cell))
                | (go_at_call 62; (with_reducible refine (HZ.out _).mono ?_); go_must (rintro e w2 ⟨rfl, hx⟩; replace hw := hw.trans (bareN hx rfl rfl rfl rfl); replace hb1 := hb1.ext (bareN hx rfl rfl rfl rfl); clear hx c1; have c1 := hb1.cell))
                | (go_at_call 62; (with_reducible refine (HA.out _).mono ?_); go_must (rintro e w2 ⟨rfl, hx⟩; replace hw := hw.trans (bareN hx rfl rfl rfl rfl); replace hb1 := hb1.ext (bareN hx rfl rfl rfl rfl); clear hx c1; have c1 := hb1.cell))
                | (go_at_call 62; (with_reducible refine (HB.out _).mono ?_); go_must (rintro e w2 ⟨rfl, hx⟩; replace hw := hw.trans (bareN hx rfl rfl rfl rfl); replace hb1 := hb1.ext (bareN hx rfl rfl rfl rfl); clear hx c1; have c1 := hb1.cell))
                | (go_at_call 62; (with_reducible refine (HC.out _).mono ?_); go_must (rintro e w2 ⟨rfl, hx⟩; replace hw := hw.trans (bareN hx rfl rfl rfl rfl); replace hb1 := hb1.ext (bareN hx rfl rfl rfl rfl); clear hx c1; have c1 := hb1.cell))
                | (go_at_call 62; (with_reducible refine (HS.out _).mono ?_); go_must (rintro e w2 ⟨rfl, hx⟩; replace hw := hw.trans (bareN hx rfl rfl rfl rfl); replace hb1 := hb1.ext (bareN hx rfl rfl rfl rfl); clear hx c1; have c1 := hb1.cell)))
              go_ret
              exact ⟨by first | rfl | simp [dK], hw⟩
            case true =>
              cases bS
              case false =>
                go_enter Tryd.func17, Tryd.ntmps17
                go_wp2_with (first
                  | (go_at_call 62; clear tkF; (with_reducible refine (HX.out _).mono ?_); go_must (rintro e w1 ⟨rfl, hx⟩; obtain ⟨hb1, hw⟩ := ext1 hx; clear hx; have c1 := hb1.cell))
                  | (go_at_call 62; (with_reducible refine (HY.out _).mono ?_); go_must (rintro e w2 ⟨rfl, hx⟩; replace hw := hw.trans (bareN hx rfl rfl rfl rfl); replace hb1 := hb1.ext (bareN hx rfl rfl rfl rfl); clear hx c1; have c1 := hb1.cell))
                  | (go_at_call 62; (with_reducible refine (HZ.out _).mono ?_); go_must (rintro e w2 ⟨rfl, hx⟩; replace hw := hw.trans (bareN hx rfl rfl rfl rfl); replace hb1 := hb1.ext (bareN hx rfl rfl rfl rfl); clear hx c1; have c1 := hb1.cell))
                  | (go_at_call 62; (with_reducible refine (HA.out _).mono ?_); go_must (rintro e w2 ⟨rfl, hx⟩; replace hw := hw.trans (bareN hx rfl rfl rfl rfl); replace hb1 := hb1.ext (bareN hx rfl rfl rfl rfl); clear hx c1; have c1 := hb1.cell))
                  | (go_at_call 62; (with_reducible refine (HB.out _).mono ?_); go_must (rintro e w2 ⟨rfl, hx⟩; replace hw := hw.trans (bareN hx rfl rfl rfl rfl); replace hb1 := hb1.ext (bareN hx rfl rfl rfl rfl); clear hx c1; have c1 := hb1.cell))
                  | (go_at_call 62; (with_reducible refine (HC.out _).mono ?_); go_must (rintro e w2 ⟨rfl, hx⟩; replace hw := hw.trans (bareN hx rfl rfl rfl rfl); replace hb1 := hb1.ext (bareN hx rfl rfl rfl rfl); clear hx c1; have c1 := hb1.cell))
                  | (go_at_call 62; (with_reducible refine (HS.out _).mono ?_); go_must (rintro e w2 ⟨rfl, hx⟩; replace hw := hw.trans (bareN hx rfl rfl rfl rfl); replace hb1 := hb1.ext (bareN hx rfl rfl rfl rfl); clear hx c1; have c1 := hb1.cell)))
                go_ret
                exact ⟨by first | rfl | simp [dK], hw⟩
              case true =>
                go_enter Tryd.func17, Tryd.ntmps17
                go_wp2_with (first
                  | (go_at_call 62; clear tkF; (with_reducible refine (HX.out _).mono ?_); go_must (rintro e w1 ⟨rfl, hx⟩; obtain ⟨hb1, hw⟩ := ext1 hx; clear hx; have c1 := hb1.cell))
                  | (go_at_call 62; (with_reducible refine (HY.out _).mono ?_); go_must (rintro e w2 ⟨rfl, hx⟩; replace hw := hw.trans (bareN hx rfl rfl rfl rfl); replace hb1 := hb1.ext (bareN hx rfl rfl rfl rfl); clear hx c1; have c1 := hb1.cell))
                  | (go_at_call 62; (with_reducible refine (HZ.out _).mono ?_); go_must (rintro e w2 ⟨rfl, hx⟩; replace hw := hw.trans (bareN hx rfl rfl rfl rfl); replace hb1 := hb1.ext (bareN hx rfl rfl rfl rfl); clear hx c1; have c1 := hb1.cell))
                  | (go_at_call 62; (with_reducible refine (HA.out _).mono ?_); go_must (rintro e w2 ⟨rfl, hx⟩; replace hw := hw.trans (bareN hx rfl rfl rfl rfl); replace hb1 := hb1.ext (bareN hx rfl rfl rfl rfl); clear hx c1; have c1 := hb1.cell))
                  | (go_at_call 62; (with_reducible refine (HB.out _).mono ?_); go_must (rintro e w2 ⟨rfl, hx⟩; replace hw := hw.trans (bareN hx rfl rfl rfl rfl); replace hb1 := hb1.ext (bareN hx rfl rfl rfl rfl); clear hx c1; have c1 := hb1.cell))
                  | (go_at_call 62; (with_reducible refine (HC.out _).mono ?_); go_must (rintro e w2 ⟨rfl, hx⟩; replace hw := hw.trans (bareN hx rfl rfl rfl rfl); replace hb1 := hb1.ext (bareN hx rfl rfl rfl rfl); clear hx c1; have c1 := hb1.cell))
                  | (go_at_call 62; (with_reducible refine (HS.out _).mono ?_); go_must (rintro e w2 ⟨rfl, hx⟩; replace hw := hw.trans (bareN hx rfl rfl rfl rfl); replace hb1 := hb1.ext (bareN hx rfl rfl rfl rfl); clear hx c1; have c1 := hb1.cell)))
                go_ret
                exact ⟨by first | rfl | simp [dK], hw⟩
end Go.Proofs.YtmmifmlkhmdgaaaDoor
