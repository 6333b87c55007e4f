/- Walks: how much longer things are on paper: package flat's and the reference's. -/
import Derived.Test.YtkfeiciopehhnaaGreatDoorY7
namespace Go.Proofs.YtkfeiciopehhnaaGreatDoor
open Go.RowKit Go.Fp Go.Rel
set_option maxRecDepth 20000

def wQ (f : Nat) (lat : Int) : Nat := fsub (can kOne) (fmul (fmul (eccP f) (can (sinP lat))) (can (sinP lat)))
def mQ (a f : Nat) (lat : Int) : Nat := fdiv (fmul (can a) (fsub (can kOne) (eccP f))) (fmul (wQ f lat) (fsqrt (wQ f lat)))
def rQ (n a f sc : Nat) (lat : Int) : Nat := if n = 2 then downP a f sc lat else fmul (can a) (can sc)
def acP (n a f sc : Nat) (lat : Int) : Nat := fdiv (rQ n a f sc lat) (fmul (crossP a f lat) (can (cosP lat)))
def alP (n a f sc : Nat) (lat : Int) : Nat := if n = 1 then fdiv (can kOne) (acP n a f sc lat) else fdiv (fdiv (fmul (rQ n a f sc lat) (fsub (can kOne) (eccP f))) (fmul (wQ f lat) (can (cosP lat)))) (mQ a f lat)
def StrR (A : Nat → Addr) (k : Int) (X Y : Nat) (w : World) (e : Ending) (w' : World) : Prop := ∃ x y v, e = .returned (.tuple #[.float .f64 x, .float .f64 y, v]) ∧ ErrOf A k v ∧ can x = X ∧ can y = Y ∧ Ext w w'
def StrQ (X Y : Nat) (w : World) (e : Ending) (w' : World) : Prop := ∃ x y, e = .returned (.tuple #[.float .f64 x, .float .f64 y]) ∧ can x = X ∧ can y = Y ∧ Ext w w'

set_option maxHeartbeats 8000000 in
theorem stretch_bad {A : Nat → Addr} {s : ByteArray} {n : Nat} (h : KindIs s n) (a f : Nat) (mid : Int) (sc : Nat) (lon lat : Int) (w : World) (h8 : World8 A w) (hk : 0 < chkP (papP (okG a f) n sc) n lat) :
    Calls Tryz.prog 21 #[paperV a f s mid sc, placeW lon lat] w (StrR A (chkP (papP (okG a f) n sc) n lat) 0 0 w) := by
  have HC0 : ∀ w, World8 A w → Calls Tryz.prog 65 #[paperV a f s mid sc, placeW lon lat] w fun e w' => ∃ p, e = .returned (errV p) ∧ ErrOf A (chkP (papP (okG a f) n sc) n lat) (errV p) ∧ Ext w w' := by
    intro w h8
    refine (pcheck_c h a f mid sc lon lat w h8).mono ?_
    rintro e w' ⟨v, rfl, hv, hx⟩
    generalize chkP (papP (okG a f) n sc) n lat = k at *
    cases hv
    case nil => exact absurd hk (by decide)
    all_goals exact ⟨_, rfl, by constructor, hx⟩
  generalize chkP (papP (okG a f) n sc) n lat = k at *
  have HC := Lib.hid HC0
  clear HC0 hk
  go_enter Tryz.func21, Tryz.ntmps21
  go_wp2_with (first
    | (go_at_call 65; go_must (refine (HC.out _ (h8.ext (by repeat (first | exact Ext.refl _ | refine Ext.alloc ?_ _)))).mono ?_; rintro e w1 ⟨p, rfl, hv, hx⟩; obtain ⟨hb1, hb2, hw⟩ := ext2 hx; clear hx hb1 hb2)))
  exact bodyPost_ret (v := .tuple #[.float .f64 0, .float .f64 0, errV p]) (by simp [results, Tryz.results21, go_sem]) rfl ⟨_, _, _, rfl, hv, can0, can0, hw⟩

set_option maxHeartbeats 16000000 in
theorem stretch_ok {A : Nat → Addr} {s : ByteArray} {n : Nat} (h : KindIs s n) (a f : Nat) (mid : Int) (sc : Nat) (lon lat : Int) (w : World) (h8 : World8 A w) (hk : chkP (papP (okG a f) n sc) n lat = 0) (h3 : n ≠ 3) :
    Calls Tryz.prog 21 #[paperV a f s mid sc, placeW lon lat] w (StrR A 0 (alP n a f sc lat) (acP n a f sc lat) w) := by
  have HC0 : ∀ w, World8 A w → Calls Tryz.prog 65 #[paperV a f s mid sc, placeW lon lat] w (ExR .nilIface w) := by
    intro w h8
    refine (pcheck_c h a f mid sc lon lat w h8).mono ?_
    rw [hk]
    rintro e w' ⟨v, rfl, hv, hx⟩
    cases hv
    exact ⟨rfl, hx⟩
  have HC := Lib.hid HC0
  clear HC0 hk
  obtain ⟨X, hX⟩ : ∃ X, X = alP n a f sc lat := ⟨_, rfl⟩
  obtain ⟨Y, hY⟩ : ∃ Y, Y = acP n a f sc lat := ⟨_, rfl⟩
  rw [← hX, ← hY]
  have HX := Lib.hid hX
  have HY := Lib.hid hY
  clear hX hY
  cases h
  case not => exact absurd rfl h3
  all_goals
    clear h3
    go_enter Tryz.func21, Tryz.ntmps21
    go_wp2_with (first
      | (go_at_call 65; go_must (refine (HC.out _ (h8.ext (by repeat (first | exact Ext.refl _ | refine Ext.alloc ?_ _)))).mono ?_; rintro e w1 ⟨rfl, hx⟩; obtain ⟨hb1, hb2, hw⟩ := ext2 hx; have c1 := hb1.cell; have c2 := hb2.cell; clear hx))
      | (go_at_call 71; go_must (refine (ecc_c a f _).mono ?_; rintro e w2 ⟨e1, rfl, he1, hx⟩; replace hw := hw.trans (bareN hx rfl rfl rfl rfl); replace hb2 := hb2.ext (bareN hx rfl rfl rfl rfl); replace hb1 := hb1.ext (bareN hx rfl rfl rfl rfl); clear c1 c2 hx; have c1 := hb1.cell; have c2 := hb2.cell))
      | (go_at_call 46; go_must (refine (sin_c _ _).mono ?_; rintro e w2 ⟨rfl, hx⟩; replace hw := hw.trans (bareN hx rfl rfl rfl rfl); replace hb2 := hb2.ext (bareN hx rfl rfl rfl rfl); replace hb1 := hb1.ext (bareN hx rfl rfl rfl rfl); clear c1 c2 hx; have c1 := hb1.cell; have c2 := hb2.cell))
      | (go_at_call 44; go_must (refine (cos_c _ _).mono ?_; rintro e w2 ⟨rfl, hx⟩; replace hw := hw.trans (bareN hx rfl rfl rfl rfl); replace hb2 := hb2.ext (bareN hx rfl rfl rfl rfl); replace hb1 := hb1.ext (bareN hx rfl rfl rfl rfl); clear c1 c2 hx; have c1 := hb1.cell; have c2 := hb2.cell))
      | (go_at_call 72; go_must (refine (cross_c a f lat _).mono ?_; rintro e w2 ⟨n1, rfl, hn1, hx⟩; replace hw := hw.trans (bareN hx rfl rfl rfl rfl); replace hb2 := hb2.ext (bareN hx rfl rfl rfl rfl); replace hb1 := hb1.ext (bareN hx rfl rfl rfl rfl); clear c1 c2 hx; have c1 := hb1.cell; have c2 := hb2.cell))
      | (go_at_call 47; go_must (refine (sqrt_c _ _).mono ?_; rintro e w2 ⟨q1, rfl, hq1, hx⟩; replace hw := hw.trans (bareN hx rfl rfl rfl rfl); replace hb2 := hb2.ext (bareN hx rfl rfl rfl rfl); replace hb1 := hb1.ext (bareN hx rfl rfl rfl rfl); clear c1 c2 hx; have c1 := hb1.cell; have c2 := hb2.cell))
      | (go_at_call 67; go_must (refine (paperA_c a f _ mid sc _).mono ?_; rintro e w2 ⟨a1, rfl, ha1, hx⟩; replace hw := hw.trans (bareN hx rfl rfl rfl rfl); replace hb2 := hb2.ext (bareN hx rfl rfl rfl rfl); replace hb1 := hb1.ext (bareN hx rfl rfl rfl rfl); clear c1 c2 hx; have c1 := hb1.cell; have c2 := hb2.cell))
      | (go_at_call 66; go_must (refine (down_c a f _ mid sc lat _).mono ?_; rintro e w2 ⟨d1, rfl, hd1, hx⟩; replace hw := hw.trans (bareN hx rfl rfl rfl rfl); replace hb2 := hb2.ext (bareN hx rfl rfl rfl rfl); replace hb1 := hb1.ext (bareN hx rfl rfl rfl rfl); clear c1 c2 hx; have c1 := hb1.cell; have c2 := hb2.cell))
      | (with_reducible refine upon_fl rfl ?_; intro r n hr))
    clear c1 c2
    refine wp_region_all FU (by kernel_rfl) (by kernel_rfl) ?_
    repeat (first
      | (refine wpR_op rfl (fun w9 hw9 K hK => ?_); have k1 := (hb1.ext (bareN hw9 rfl rfl rfl rfl)).cell; have k2 := (hb2.ext (bareN hw9 rfl rfl rfl rfl)).cell; go_simp; refine hK _ ?_; clear hK K k1 k2 hw9 w9)
      | (refine wpR_op rfl (fun w9 hw9 K hK => ?_); go_simp; refine rel_call (ExR.call (sin_c _ _)) (fun v => ?_) (fun v hv => ?_); (simp [FU, spIntN_iff]); subst hv; refine hK _ ?_; clear hK K hw9 w9)
      | (refine wpR_op rfl (fun w9 hw9 K hK => ?_); go_simp; refine rel_call (ExR.call (cos_c _ _)) (fun v => ?_) (fun v hv => ?_); (simp [FU, spIntN_iff]); subst hv; refine hK _ ?_; clear hK K hw9 w9)
      | (refine wpR_op rfl (fun w9 hw9 K hK => ?_); go_simp; refine rel_fl rfl ?_; intro rx hrx; refine hK _ ?_; clear hK K hw9 w9))
    refine wpR_nil ?_
    intro w8 hx8 _
    replace hw := hw.trans (bareN hx8 rfl rfl rfl rfl)
    replace hb2 := hb2.ext (bareN hx8 rfl rfl rfl rfl)
    replace hb1 := hb1.ext (bareN hx8 rfl rfl rfl rfl)
    clear hx8
    have c1 := hb1.cell
    have c2 := hb2.cell
    go_wp2_with (first
      | (go_at_call 71; go_must (refine (ecc_c a f _).mono ?_; rintro e w2 ⟨e1, rfl, he1, hx⟩; replace hw := hw.trans (bareN hx rfl rfl rfl rfl); replace hb2 := hb2.ext (bareN hx rfl rfl rfl rfl); replace hb1 := hb1.ext (bareN hx rfl rfl rfl rfl); clear c1 c2 hx; have c1 := hb1.cell; have c2 := hb2.cell))
      | (go_at_call 46; go_must (refine (sin_c _ _).mono ?_; rintro e w2 ⟨rfl, hx⟩; replace hw := hw.trans (bareN hx rfl rfl rfl rfl); replace hb2 := hb2.ext (bareN hx rfl rfl rfl rfl); replace hb1 := hb1.ext (bareN hx rfl rfl rfl rfl); clear c1 c2 hx; have c1 := hb1.cell; have c2 := hb2.cell))
      | (go_at_call 44; go_must (refine (cos_c _ _).mono ?_; rintro e w2 ⟨rfl, hx⟩; replace hw := hw.trans (bareN hx rfl rfl rfl rfl); replace hb2 := hb2.ext (bareN hx rfl rfl rfl rfl); replace hb1 := hb1.ext (bareN hx rfl rfl rfl rfl); clear c1 c2 hx; have c1 := hb1.cell; have c2 := hb2.cell))
      | (go_at_call 72; go_must (refine (cross_c a f lat _).mono ?_; rintro e w2 ⟨n1, rfl, hn1, hx⟩; replace hw := hw.trans (bareN hx rfl rfl rfl rfl); replace hb2 := hb2.ext (bareN hx rfl rfl rfl rfl); replace hb1 := hb1.ext (bareN hx rfl rfl rfl rfl); clear c1 c2 hx; have c1 := hb1.cell; have c2 := hb2.cell))
      | (go_at_call 47; go_must (refine (sqrt_c _ _).mono ?_; rintro e w2 ⟨q1, rfl, hq1, hx⟩; replace hw := hw.trans (bareN hx rfl rfl rfl rfl); replace hb2 := hb2.ext (bareN hx rfl rfl rfl rfl); replace hb1 := hb1.ext (bareN hx rfl rfl rfl rfl); clear c1 c2 hx; have c1 := hb1.cell; have c2 := hb2.cell))
      | (go_at_call 67; go_must (refine (paperA_c a f _ mid sc _).mono ?_; rintro e w2 ⟨a1, rfl, ha1, hx⟩; replace hw := hw.trans (bareN hx rfl rfl rfl rfl); replace hb2 := hb2.ext (bareN hx rfl rfl rfl rfl); replace hb1 := hb1.ext (bareN hx rfl rfl rfl rfl); clear c1 c2 hx; have c1 := hb1.cell; have c2 := hb2.cell))
      | (go_at_call 66; go_must (refine (down_c a f _ mid sc lat _).mono ?_; rintro e w2 ⟨d1, rfl, hd1, hx⟩; replace hw := hw.trans (bareN hx rfl rfl rfl rfl); replace hb2 := hb2.ext (bareN hx rfl rfl rfl rfl); replace hb1 := hb1.ext (bareN hx rfl rfl rfl rfl); clear c1 c2 hx; have c1 := hb1.cell; have c2 := hb2.cell))
      | (with_reducible refine upon_fl rfl ?_; intro r n hr))
    clear c1 c2
    refine wp_region_all FU (by kernel_rfl) (by kernel_rfl) ?_
    repeat (first
      | (refine wpR_op rfl (fun w9 hw9 K hK => ?_); have k1 := (hb1.ext (bareN hw9 rfl rfl rfl rfl)).cell; have k2 := (hb2.ext (bareN hw9 rfl rfl rfl rfl)).cell; go_simp; refine hK _ ?_; clear hK K k1 k2 hw9 w9)
      | (refine wpR_op rfl (fun w9 hw9 K hK => ?_); go_simp; refine rel_call (FlR.call (sqrt_c _ _)) (fun v => ?_) (fun v hv => ?_); (simp [FU, spOne_iff]); obtain ⟨rq, rfl, hrq⟩ := hv; refine hK _ ?_; clear hK K hw9 w9)
      | (refine wpR_op rfl (fun w9 hw9 K hK => ?_); go_simp; refine rel_fl rfl ?_; intro rx hrx; refine hK _ ?_; clear hK K hw9 w9))
    refine wpR_nil ?_
    intro w8 hx8 _
    replace hw := hw.trans (bareN hx8 rfl rfl rfl rfl)
    replace hb2 := hb2.ext (bareN hx8 rfl rfl rfl rfl)
    replace hb1 := hb1.ext (bareN hx8 rfl rfl rfl rfl)
    clear hx8
    have c1 := hb1.cell
    have c2 := hb2.cell
    go_wp2_with (first
      | (go_at_call 71; go_must (refine (ecc_c a f _).mono ?_; rintro e w2 ⟨e1, rfl, he1, hx⟩; replace hw := hw.trans (bareN hx rfl rfl rfl rfl); replace hb2 := hb2.ext (bareN hx rfl rfl rfl rfl); replace hb1 := hb1.ext (bareN hx rfl rfl rfl rfl); clear c1 c2 hx; have c1 := hb1.cell; have c2 := hb2.cell))
      | (go_at_call 46; go_must (refine (sin_c _ _).mono ?_; rintro e w2 ⟨rfl, hx⟩; replace hw := hw.trans (bareN hx rfl rfl rfl rfl); replace hb2 := hb2.ext (bareN hx rfl rfl rfl rfl); replace hb1 := hb1.ext (bareN hx rfl rfl rfl rfl); clear c1 c2 hx; have c1 := hb1.cell; have c2 := hb2.cell))
      | (go_at_call 44; go_must (refine (cos_c _ _).mono ?_; rintro e w2 ⟨rfl, hx⟩; replace hw := hw.trans (bareN hx rfl rfl rfl rfl); replace hb2 := hb2.ext (bareN hx rfl rfl rfl rfl); replace hb1 := hb1.ext (bareN hx rfl rfl rfl rfl); clear c1 c2 hx; have c1 := hb1.cell; have c2 := hb2.cell))
      | (go_at_call 72; go_must (refine (cross_c a f lat _).mono ?_; rintro e w2 ⟨n1, rfl, hn1, hx⟩; replace hw := hw.trans (bareN hx rfl rfl rfl rfl); replace hb2 := hb2.ext (bareN hx rfl rfl rfl rfl); replace hb1 := hb1.ext (bareN hx rfl rfl rfl rfl); clear c1 c2 hx; have c1 := hb1.cell; have c2 := hb2.cell))
      | (go_at_call 47; go_must (refine (sqrt_c _ _).mono ?_; rintro e w2 ⟨q1, rfl, hq1, hx⟩; replace hw := hw.trans (bareN hx rfl rfl rfl rfl); replace hb2 := hb2.ext (bareN hx rfl rfl rfl rfl); replace hb1 := hb1.ext (bareN hx rfl rfl rfl rfl); clear c1 c2 hx; have c1 := hb1.cell; have c2 := hb2.cell))
      | (go_at_call 67; go_must (refine (paperA_c a f _ mid sc _).mono ?_; rintro e w2 ⟨a1, rfl, ha1, hx⟩; replace hw := hw.trans (bareN hx rfl rfl rfl rfl); replace hb2 := hb2.ext (bareN hx rfl rfl rfl rfl); replace hb1 := hb1.ext (bareN hx rfl rfl rfl rfl); clear c1 c2 hx; have c1 := hb1.cell; have c2 := hb2.cell))
      | (go_at_call 66; go_must (refine (down_c a f _ mid sc lat _).mono ?_; rintro e w2 ⟨d1, rfl, hd1, hx⟩; replace hw := hw.trans (bareN hx rfl rfl rfl rfl); replace hb2 := hb2.ext (bareN hx rfl rfl rfl rfl); replace hb1 := hb1.ext (bareN hx rfl rfl rfl rfl); clear c1 c2 hx; have c1 := hb1.cell; have c2 := hb2.cell))
      | (with_reducible refine upon_fl rfl ?_; intro r n hr))
  all_goals
    refine bodyPost_ret (v := .tuple #[.float .f64 _, .float .f64 _, .nilIface]) (by simp [results, Tryz.results21, go_sem]; exact ⟨rfl, rfl⟩) rfl ⟨_, _, _, rfl, .nil, ?_, ?_, (by repeat (first | exact hw | refine Ext.drewN ?_ _))⟩
    · rw [HX.out]; simp [alP, acP, rQ, wQ, mQ, *, fbin]
    · rw [HY.out]; simp [acP, rQ, *, fbin]

set_option maxHeartbeats 16000000 in
theorem stretchOf_c {s : ByteArray} {n : Nat} (h : KindIs s n) (a f : Nat) (mid : Int) (sc : Nat) (lon lat : Int) (w : World) (h3 : n ≠ 3) :
    Calls Tryz.prog 22 #[paperV a f s mid sc, placeW lon lat] w (StrQ (alP n a f sc lat) (acP n a f sc lat) w) := by
  obtain ⟨X, hX⟩ : ∃ X, X = alP n a f sc lat := ⟨_, rfl⟩
  obtain ⟨Y, hY⟩ : ∃ Y, Y = acP n a f sc lat := ⟨_, rfl⟩
  rw [← hX, ← hY]
  have HX := Lib.hid hX
  have HY := Lib.hid hY
  clear hX hY
  cases h
  case not => exact absurd rfl h3
  all_goals
    clear h3
    go_enter Tryz.func22, Tryz.ntmps22
    go_wp2_with (first
      | (go_at_call 73; go_must (refine (squareOf_c a f _).mono ?_; rintro e w2 ⟨e1, rfl, he1, hx⟩; obtain ⟨hb1, hb2, hw⟩ := ext2 hx; clear hx; have c1 := hb1.cell; have c2 := hb2.cell))
      | (go_at_call 57; refine (sincos_c _ _).mono ?_; rintro e w2 ⟨rfl, rfl⟩)
      | (go_at_call 74; go_must (refine (crossOf_c a f lat _).mono ?_; rintro e w2 ⟨n1, rfl, hn1, hx⟩; replace hw := hw.trans (bareN hx rfl rfl rfl rfl); replace hb2 := hb2.ext (bareN hx rfl rfl rfl rfl); replace hb1 := hb1.ext (bareN hx rfl rfl rfl rfl); clear c1 c2 hx; have c1 := hb1.cell; have c2 := hb2.cell))
      | (go_at_call 47; go_must (refine (sqrt_c _ _).mono ?_; rintro e w2 ⟨q1, rfl, hq1, hx⟩; replace hw := hw.trans (bareN hx rfl rfl rfl rfl); replace hb2 := hb2.ext (bareN hx rfl rfl rfl rfl); replace hb1 := hb1.ext (bareN hx rfl rfl rfl rfl); clear c1 c2 hx; have c1 := hb1.cell; have c2 := hb2.cell))
      | (go_at_call 75; go_must (refine (less_c _ _ _ _).mono ?_; rintro e w2 ⟨l1, rfl, hl1, hx⟩; replace hw := hw.trans (bareN hx rfl rfl rfl rfl); replace hb2 := hb2.ext (bareN hx rfl rfl rfl rfl); replace hb1 := hb1.ext (bareN hx rfl rfl rfl rfl); clear c1 c2 hx; have c1 := hb1.cell; have c2 := hb2.cell))
      | (go_at_call 69; go_must (refine (downOf_c a f _ mid sc lat _).mono ?_; rintro e w2 ⟨d1, rfl, hd1, hx⟩; replace hw := hw.trans (bareN hx rfl rfl rfl rfl); replace hb2 := hb2.ext (bareN hx rfl rfl rfl rfl); replace hb1 := hb1.ext (bareN hx rfl rfl rfl rfl); clear c1 c2 hx; have c1 := hb1.cell; have c2 := hb2.cell))
      | (with_reducible refine upon_fl rfl ?_; intro r n hr))
  · clear c1 c2
    refine wp_region_all FU (by kernel_rfl) (by kernel_rfl) ?_
    repeat (first
      | (refine wpR_op rfl (fun w9 hw9 K hK => ?_); have k1 := (hb1.ext (bareN hw9 rfl rfl rfl rfl)).cell; have k2 := (hb2.ext (bareN hw9 rfl rfl rfl rfl)).cell; go_simp; refine hK _ ?_; clear hK K k1 k2 hw9 w9)
      | (refine wpR_op rfl (fun w9 hw9 K hK => ?_); go_simp; refine rel_call (FlR.call (sqrt_c _ _)) (fun v => ?_) (fun v hv => ?_); (simp [FU, spOne_iff]); obtain ⟨rq, rfl, hrq⟩ := hv; refine hK _ ?_; clear hK K hw9 w9)
      | (refine wpR_op rfl (fun w9 hw9 K hK => ?_); go_simp; refine rel_fl rfl ?_; intro rx hrx; refine hK _ ?_; clear hK K hw9 w9))
    refine wpR_nil ?_
    intro w8 hx8 _
    replace hw := hw.trans (bareN hx8 rfl rfl rfl rfl)
    replace hb2 := hb2.ext (bareN hx8 rfl rfl rfl rfl)
    replace hb1 := hb1.ext (bareN hx8 rfl rfl rfl rfl)
    clear hx8
    have c1 := hb1.cell
    have c2 := hb2.cell
    go_wp2_with (first
      | (with_reducible refine upon_fl rfl ?_; intro r n hr))
    refine bodyPost_ret (v := .tuple #[.float .f64 _, .float .f64 _]) (by simp [results, Tryz.results22, go_sem]; exact ⟨rfl, rfl⟩) rfl ⟨_, _, rfl, ?_, ?_, (by repeat (first | exact hw | refine Ext.drewN ?_ _))⟩
    · rw [HX.out]; simp [alP, acP, rQ, wQ, mQ, *, fbin]
    · rw [HY.out]; simp [acP, rQ, *, fbin]
  · refine bodyPost_ret (v := .tuple #[.float .f64 _, .float .f64 _]) (by simp [results, Tryz.results22, go_sem]; exact ⟨rfl, rfl⟩) rfl ⟨_, _, rfl, ?_, ?_, (by repeat (first | exact hw | refine Ext.drewN ?_ _))⟩
    · rw [HX.out]; simp [alP, acP, rQ, wQ, mQ, *, fbin]
    · rw [HY.out]; simp [acP, rQ, *, fbin]
  · clear c1 c2
    refine wp_region_all FU (by kernel_rfl) (by kernel_rfl) ?_
    repeat (first
      | (refine wpR_op rfl (fun w9 hw9 K hK => ?_); have k1 := (hb1.ext (bareN hw9 rfl rfl rfl rfl)).cell; have k2 := (hb2.ext (bareN hw9 rfl rfl rfl rfl)).cell; go_simp; refine hK _ ?_; clear hK K k1 k2 hw9 w9)
      | (refine wpR_op rfl (fun w9 hw9 K hK => ?_); go_simp; refine rel_call (FlR.call (sqrt_c _ _)) (fun v => ?_) (fun v hv => ?_); (simp [FU, spOne_iff]); obtain ⟨rq, rfl, hrq⟩ := hv; refine hK _ ?_; clear hK K hw9 w9)
      | (refine wpR_op rfl (fun w9 hw9 K hK => ?_); go_simp; refine rel_fl rfl ?_; intro rx hrx; refine hK _ ?_; clear hK K hw9 w9))
    refine wpR_nil ?_
    intro w8 hx8 _
    replace hw := hw.trans (bareN hx8 rfl rfl rfl rfl)
    replace hb2 := hb2.ext (bareN hx8 rfl rfl rfl rfl)
    replace hb1 := hb1.ext (bareN hx8 rfl rfl rfl rfl)
    clear hx8
    have c1 := hb1.cell
    have c2 := hb2.cell
    go_wp2_with (first
      | (with_reducible refine upon_fl rfl ?_; intro r n hr))
    refine bodyPost_ret (v := .tuple #[.float .f64 _, .float .f64 _]) (by simp [results, Tryz.results22, go_sem]; exact ⟨rfl, rfl⟩) rfl ⟨_, _, rfl, ?_, ?_, (by repeat (first | exact hw | refine Ext.drewN ?_ _))⟩
    · rw [HX.out]; simp [alP, acP, rQ, wQ, mQ, *, fbin]
    · rw [HY.out]; simp [acP, rQ, *, fbin]
end Go.Proofs.YtkfeiciopehhnaaGreatDoor
