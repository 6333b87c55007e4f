/- The walk of the statement FlatStretch. -/
import Derived.Test.YtkfeiciopehhnaaGreatDoorZ1
namespace Go.Proofs.YtkfeiciopehhnaaGreatDoor
open Go.RowKit Go.Fp Go.Rel
set_option maxRecDepth 20000

theorem can_zero {x : Nat} (h : can x = 0) : x = 0 := by
  cases hn : isNan x with
  | false => rw [can_of_not hn] at h; exact h
  | true => rw [can_of_nan hn] at h; exact absurd h (by decide)
def isStr (A : Nat → Addr) (k : Int) (X Y : Nat) (v : Value) : Prop := ∃ x y u, v = .tuple #[.float .f64 x, .float .f64 y, u] ∧ ErrOf A k u ∧ can x = X ∧ can y = Y
theorem StrR.call {P : Program} {f : FuncId} {args : Array Value} {A : Nat → Addr} {k : Int} {X Y : Nat} {W : World} (h : Calls P f args W (StrR A k X Y W)) : Calls P f args W (fun e w' => ∃ v, e = .returned v ∧ isStr A k X Y v ∧ Ext W w') :=
  h.mono fun _ _ ⟨x, y, u, he, hu, hx, hy, hw⟩ => ⟨_, he, ⟨x, y, u, rfl, hu, hx, hy⟩, hw⟩
set_option maxHeartbeats 8000000 in
theorem flatStretch_bad {A : Nat → Addr} {s : ByteArray} {n : Nat} (hK : KindIs s n) (a f : Nat) (mid : Int) (sc : Nat) (lon lat : Int) (w : World) (h8 : World8 A w) (hk : 0 < chkP (papP (okG a f) n sc) n lat) :
    Calls Tryz.prog 5 #[paperV a f s mid sc, placeW lon lat] w (ExR (.bool true) w) := by
  have HPL := Lib.hid (fun (w : World) => placeError_c hK a f mid sc lon lat w)
  have HT := Lib.hid (fun (w : World) (h : World8 A w) => stretch_bad hK a f mid sc lon lat w h hk)
  generalize chkP (papP (okG a f) n sc) n lat = ke at *
  have H8 := Lib.hid h8
  clear hK h8
  go_enter Tryz.func5, Tryz.ntmps5
  go_wp2_with (first
    | (go_at_call 13; go_must (refine (drawn_c _ (H8.out.ext (by repeat (first | exact Ext.refl _ | refine Ext.alloc ?_ _)))).mono ?_; rintro e w1 ⟨rfl, hx⟩; obtain ⟨hb1, hb2, hw⟩ := ext2 hx; clear hx)))
  refine wp_region_all (fun g args v => (g = 14 ∧ v = paperV a f s mid sc) ∨ (g = 21 ∧ isStr A ke 0 0 v)) (by kernel_rfl) (by kernel_rfl) ?_
  repeat (first
    | (refine wpR_op rfl (fun w9 hw9 K hK => ?_); have k1 := (hb1.ext (bareN hw9 rfl rfl rfl rfl)).cell; have k2 := (hb2.ext (bareN hw9 rfl rfl rfl rfl)).cell; go_simp; refine hK _ ?_; clear hK K k1 k2 hw9 w9)
    | (refine wpR_op rfl (fun w9 hw9 K hK => ?_); go_simp; refine rel_call (ExR.call (paper_c a f s mid sc _)) (fun v => ?_) (fun v hv => ?_); (simp); subst hv; refine hK _ ?_; clear hK K hw9 w9)
    | (refine wpR_op rfl (fun w9 hw9 K hK => ?_); go_simp; refine rel_call (StrR.call (HT.out _ (H8.out.ext (hw.trans (bareN hw9 rfl rfl rfl rfl))))) (fun v => ?_) (fun v hv => ?_); (simp); obtain ⟨x1, y1, v2, rfl, hv2, hx1, hy1⟩ := hv; refine hK _ ?_; clear hK K hw9 w9))
  refine wpR_nil ?_
  intro w8 hx8 _
  replace hw := hw.trans (bareN hx8 rfl rfl rfl rfl)
  replace hb2 := hb2.ext (bareN hx8 rfl rfl rfl rfl)
  replace hb1 := hb1.ext (bareN hx8 rfl rfl rfl rfl)
  clear hx8
  have c1 := hb1.cell
  have c2 := hb2.cell
  obtain rfl := can_zero hx1
  obtain rfl := can_zero hy1
  have o0 : FloatKind.f64.format.order 0 0 = some .eq := by kernel_rfl
  go_wp2_with (first
    | (go_at_call 18; go_must (refine (HPL.out _).mono ?_; rintro e v3 ⟨rfl, hx⟩; replace hb1 := hb1.ext hx; replace hb2 := hb2.ext hx; replace hw := hw.trans hx; clear hx c1 c2; have c1 := hb1.cell; have c2 := hb2.cell))
    | (go_at_call 12; go_must (refine (coded_c (H8.out.ext hw) hv2 _).mono ?_; rintro e v3 ⟨rfl, hx⟩; rw [decide_eq_true (rfl : ke = ke)]; replace hb1 := hb1.ext hx; replace hb2 := hb2.ext hx; replace hw := hw.trans hx; clear hx c1 c2; have c1 := hb1.cell; have c2 := hb2.cell)))
  all_goals go_ret
  all_goals exact ⟨rfl, hw⟩
set_option maxHeartbeats 8000000 in
theorem flatStretch_ok {A : Nat → Addr} {s : ByteArray} {n : Nat} (hK : KindIs s n) (a f : Nat) (mid : Int) (sc : Nat) (lon lat : Int) (w : World) (h8 : World8 A w) (hk : chkP (papP (okG a f) n sc) n lat = 0) (h3 : n ≠ 3) :
    Calls Tryz.prog 5 #[paperV a f s mid sc, placeW lon lat] w (ExR (.bool true) w) := by
  have HPL := Lib.hid (fun (w : World) => placeError_c hK a f mid sc lon lat w)
  have HT := Lib.hid (fun (w : World) (h : World8 A w) => stretch_ok hK a f mid sc lon lat w h hk h3)
  have HF := Lib.hid (fun (w : World) => stretchOf_c hK a f mid sc lon lat w h3)
  rw [hk] at HPL
  generalize alP n a f sc lat = X at *
  generalize acP n a f sc lat = Y at *
  clear hk h3
  have H8 := Lib.hid h8
  clear hK h8
  go_enter Tryz.func5, Tryz.ntmps5
  go_wp2_with (first
    | (go_at_call 13; go_must (refine (drawn_c _ (H8.out.ext (by repeat (first | exact Ext.refl _ | refine Ext.alloc ?_ _)))).mono ?_; rintro e w1 ⟨rfl, hx⟩; obtain ⟨hb1, hb2, hw⟩ := ext2 hx; clear hx)))
  refine wp_region_all (fun g args v => (g = 14 ∧ v = paperV a f s mid sc) ∨ (g = 21 ∧ isStr A (0 : Int) X Y v)) (by kernel_rfl) (by kernel_rfl) ?_
  repeat (first
    | (refine wpR_op rfl (fun w9 hw9 K hK => ?_); have k1 := (hb1.ext (bareN hw9 rfl rfl rfl rfl)).cell; have k2 := (hb2.ext (bareN hw9 rfl rfl rfl rfl)).cell; go_simp; refine hK _ ?_; clear hK K k1 k2 hw9 w9)
    | (refine wpR_op rfl (fun w9 hw9 K hK => ?_); go_simp; refine rel_call (ExR.call (paper_c a f s mid sc _)) (fun v => ?_) (fun v hv => ?_); (simp); subst hv; refine hK _ ?_; clear hK K hw9 w9)
    | (refine wpR_op rfl (fun w9 hw9 K hK => ?_); go_simp; refine rel_call (StrR.call (HT.out _ (H8.out.ext (hw.trans (bareN hw9 rfl rfl rfl rfl))))) (fun v => ?_) (fun v hv => ?_); (simp); obtain ⟨x1, y1, v2, rfl, hv2, hx1, hy1⟩ := hv; refine hK _ ?_; clear hK K hw9 w9))
  refine wpR_nil ?_
  intro w8 hx8 _
  replace hw := hw.trans (bareN hx8 rfl rfl rfl rfl)
  replace hb2 := hb2.ext (bareN hx8 rfl rfl rfl rfl)
  replace hb1 := hb1.ext (bareN hx8 rfl rfl rfl rfl)
  clear hx8
  have c1 := hb1.cell
  have c2 := hb2.cell
  have tk : Hid True := trivial
  go_wp2_with (first
    | (go_at_call 18; go_must (refine (HPL.out _).mono ?_; rintro e v3 ⟨rfl, hx⟩; replace hb1 := hb1.ext hx; replace hb2 := hb2.ext hx; replace hw := hw.trans hx; clear hx c1 c2; have c1 := hb1.cell; have c2 := hb2.cell))
    | (go_at_call 12; go_must (refine (coded_c (H8.out.ext hw) hv2 _).mono ?_; rintro e v3 ⟨rfl, hx⟩; rw [decide_eq_true (rfl : (0 : Int) = (0 : Int))]; replace hb1 := hb1.ext hx; replace hb2 := hb2.ext hx; replace hw := hw.trans hx; clear hx c1 c2; have c1 := hb1.cell; have c2 := hb2.cell))
    | (go_at_call 22; go_must (refine (HF.out _).mono ?_; rintro e v3 ⟨x2, y2, rfl, hx2, hy2, hx⟩; replace hb1 := hb1.ext hx; replace hb2 := hb2.ext hx; replace hw := hw.trans hx; clear hx c1 c2; have c1 := hb1.cell; have c2 := hb2.cell))
    | (go_at_call 23; clear tk; go_must (refine (sameBits_c x1 x2 _ (hx1.trans hx2.symm)).mono ?_; rintro e v3 ⟨rfl, hx⟩; replace hb1 := hb1.ext hx; replace hb2 := hb2.ext hx; replace hw := hw.trans hx; clear hx c1 c2; have c1 := hb1.cell; have c2 := hb2.cell))
    | (go_at_call 23; go_must (refine (sameBits_c y1 y2 _ (hy1.trans hy2.symm)).mono ?_; rintro e v3 ⟨rfl, hx⟩; replace hb1 := hb1.ext hx; replace hb2 := hb2.ext hx; replace hw := hw.trans hx; clear hx c1 c2; have c1 := hb1.cell; have c2 := hb2.cell)))
  all_goals go_ret
  all_goals exact ⟨rfl, hw⟩

theorem flatStretch_walk {A : Nat → Addr} (a f : Nat) (s : ByteArray) (mid : Int) (sc : Nat) (lon lat : Int) (w : World) (h8 : World8 A w) : Calls Tryz.prog 5 #[paperV a f s mid sc, placeW lon lat] w (ExR (.bool true) w) := by
  obtain ⟨n, hK⟩ := kind_some s
  rcases chkP_cases (okG a f) n sc lat with hk | ⟨hk, h3⟩
  · exact flatStretch_bad hK a f mid sc lon lat w h8 hk
  · exact flatStretch_ok hK a f mid sc lon lat w h8 hk h3
end Go.Proofs.YtkfeiciopehhnaaGreatDoor
