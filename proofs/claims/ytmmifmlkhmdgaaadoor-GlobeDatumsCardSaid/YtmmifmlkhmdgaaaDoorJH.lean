/- Walks: a datum's check, how much longer, To the other frame. -/
import Derived.Test.YtmmifmlkhmdgaaaDoorJG
namespace Go.Proofs.YtmmifmlkhmdgaaaDoor
open Go.RowKit Go.Fp Go.Rel
set_option maxRecDepth 20000

theorem can_one' : can cOne = cOne := v_one.1.can
theorem can_m6 : can c1m6 = c1m6 := v_1m6.1.can
set_option maxHeartbeats 4000000 in
theorem longer_c (X Y Z A B C S : Nat) (w : World) : Calls Tryd.prog 60 #[datV X Y Z A B C S] w (FlR (kD (can S)) w) := by
  go_enter Tryd.func60, Tryd.ntmps60
  go_wp2_with (first
    | (with_reducible refine upon_fl rfl ?_; intro r n hr))
  go_ret
  refine ⟨_, rfl, ?_, by repeat (first | exact Ext.refl _ | refine Ext.drewN ?_ _ | refine Ext.alloc ?_ _)⟩
  simp only [*, fbin, kD, can_one', can_m6]
/-- the error's number of a datum and a vector -/
def dvK (g v : Bool) : Int := if g then (if v then 0 else 4) else 3
set_option maxHeartbeats 8000000 in
theorem check_c {A0 : Nat → Addr} (X Y Z A B C S x y z : Nat) (w : World) (h8 : World8 A0 w) : Calls Tryd.prog 59 #[datV X Y Z A B C S, vecU x y z] w (fun e w' => ∃ v, e = .returned v ∧ ErrOf A0 (dvK (okD X Y Z A B C S) (okV x y z)) v ∧ Ext w w') := by
  rw [okV_all]
  have HV0 := fun w h8 => dvalid_c (A0 := A0) X Y Z A B C S w h8
  have G1 := fun b cap w hb => gw3 c1e10 m1e10 x y z neg_1e10 b cap w hb
  generalize okD X Y Z A B C S = g at *
  generalize allIn c1e10 m1e10 [x, y, z] = p at *
  have H8 := Lib.hid h8
  have HV := Lib.hid HV0
  have F1 := Lib.hid G1
  clear h8 HV0 G1
  cases g <;> cases p
  all_goals
    go_enter Tryd.func59, Tryd.ntmps59
    go_wp2_with (first
      | (go_at_call 19; go_must (refine (HV.out _ (H8.out.ext (by repeat (first | exact Ext.refl _ | refine Ext.alloc ?_ _)))).mono ?_; rintro e w1 ⟨v, rfl, hv, hx⟩; cases hv; obtain ⟨hb1, hb2, hw⟩ := ext2 hx; clear hx; have c2 := hb2.cell))
      | (go_at_call 64; go_must ((with_reducible refine (F1.out _ _ _ (Blk.new _ _ _)).mono ?_); rintro e w2 ⟨rfl, hx⟩; replace hw := hw.trans (((Ext.refl _).alloc _).trans hx); clear hx c2 hb1 hb2; have kg := (H8.out.ext hw).errs.cell 0 (by decide))))
    go_ret
    first
      | exact ⟨_, rfl, .nil, hw⟩
      | exact ⟨_, rfl, .shape, hw⟩
      | exact ⟨_, rfl, .range, hw⟩
/-- a vector told but for which NaNs -/
def VeR (X Y Z : Nat) (w : World) (e : Ending) (w' : World) : Prop := ∃ x y z, e = .returned (vecU x y z) ∧ can x = X ∧ can y = Y ∧ can z = Z ∧ Ext w w'
def VeE (X Y Z : Nat) (v : Value) (w : World) (e : Ending) (w' : World) : Prop := ∃ x y z, e = .returned (.tuple #[vecU x y z, v]) ∧ can x = X ∧ can y = Y ∧ can z = Z ∧ Ext w w'
set_option maxHeartbeats 8000000 in
theorem dto_ok {A0 : Nat → Addr} (X Y Z A B C S x y z : Nat) (w : World) (h8 : World8 A0 w) (hd : okD X Y Z A B C S = true) (hv : okV x y z = true) :
    Calls Tryd.prog 14 #[datV X Y Z A B C S, vecU x y z] w (VeE (toX (can X) (can B) (can C) (kD (can S)) (can x) (can y) (can z)) (toY (can Y) (can A) (can C) (kD (can S)) (can x) (can y) (can z)) (toZ (can Z) (can A) (can B) (kD (can S)) (can x) (can y) (can z)) .nilIface w) := by
  have HC0 := fun w h8 => check_c (A0 := A0) X Y Z A B C S x y z w h8
  rw [hd, hv] at HC0
  have HC := Lib.hid HC0
  clear HC0 hd hv
  go_enter Tryd.func14, Tryd.ntmps14
  go_wp2_with (first
    | (go_at_call 59; go_must (refine (HC.out _ (h8.ext (by repeat (first | exact Ext.refl _ | refine Ext.alloc ?_ _)))).mono ?_; rintro e w1 ⟨v, rfl, hv, hx⟩; cases hv; obtain ⟨hb1, hb2, hb3, hw⟩ := ext3 hx; clear hx; have c1 := hb1.cell; have c2 := hb2.cell))
    | (go_at_call 60; go_must (refine (longer_c _ _ _ _ _ _ _ _).mono ?_; rintro e w2 ⟨k, rfl, hk, hx⟩; replace hw := hw.trans (bareN hx rfl rfl rfl rfl); replace hb1 := hb1.ext (bareN hx rfl rfl rfl rfl); replace hb2 := hb2.ext (bareN hx rfl rfl rfl rfl); replace hb3 := hb3.ext (bareN hx rfl rfl rfl rfl); clear hx c1 c2; have c1 := hb1.cell; have c2 := hb2.cell))
    | (refine wpList_own rfl 29 _ _ rfl _ _ rfl rfl _ _ hb3 (by kernel_rfl) rfl (by simp [Value.oneCell']) ?_; go_must (intro u bn en sn; replace hw := en w (by repeat (first | exact hw | refine Ext.drewN ?_ _)) (by omega); have kc := bn.cell; clear sn en hb3))
    | (with_reducible refine upon_fl rfl ?_; intro r n hr))
  rename_i q1 m1 g1 q2 m2 g2 q3 m3 g3 q4 m4 g4 q5 m5 g5 q6 m6 g6 q7 m7 g7 q8 m8 g8 q9 m9 g9 q10 m10 g10 q11 m11 g11 q12 m12 g12 q13 m13 g13 q14 m14 g14 q15 m15 g15 q16 m16 g16 q17 m17 g17
  refine bodyPost_ret (v := .tuple #[vecU q6 q12 r, .nilIface]) (by simp [results, Tryd.results14, go_sem, kc]) rfl ⟨q6, q12, r, rfl, ?_, ?_, ?_, hw⟩
  · simp only [*, fbin, toX]
  · simp only [*, fbin, toY]
  · simp only [*, fbin, toZ]
end Go.Proofs.YtmmifmlkhmdgaaaDoor
