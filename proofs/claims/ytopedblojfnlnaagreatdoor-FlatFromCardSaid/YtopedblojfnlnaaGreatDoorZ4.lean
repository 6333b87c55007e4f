/- Walks: of which place a point of paper is: package flat's. -/
import Derived.Test.YtopedblojfnlnaaGreatDoorZ5
namespace Go.Proofs.YtopedblojfnlnaaGreatDoor
open Go.RowKit Go.Fp Go.Rel
set_option maxRecDepth 20000

abbrev c32 : Nat := 4614388178203810202
abbrev m32 : Nat := 13837760215058586010
abbrev c1e8 : Nat := 4726483295884279808
abbrev m1e8 : Nat := 13949855332739055616
/-- the east of a point over the paper's size -/
def eastQ (a sc X : Nat) : Nat := fdiv X (fmul (can a) (can sc))
def farQ (L : Nat) : Bool := D.order L c32 == some .gt || D.order L m32 == some .lt
/-- the error's number of a point on a paper -/
def fromK (kp : Int) (n a sc x y : Nat) : Int := if 0 < kp then kp else if (btw x m1e8 c1e8 && btw y m1e8 c1e8) = false then 4 else if n = 2 then 0 else if farQ (eastQ a sc (can x)) = true then 4 else 0
/-- its longitude -/
def fromLon (n a sc x y : Nat) (mid : Int) : Int := if n = 2 then signP (IntKind.i64.wrap (normP mid + (angleP (can x) (negC (can y))).1)) else signP (IntKind.i64.wrap (normP mid + nearP (eastQ a sc (can x))))
/-- whose latitude is asked for -/
def fromY (n a f sc x y : Nat) : Nat := if n = 2 then negC (can (lnP (fdiv (fmul (fsqrt (fadd (fmul (can x) (can x)) (fmul (can y) (can y)))) (poleP f)) (fmul (can kTwo) (fmul (can a) (can sc)))))) else if n = 1 then can y else fdiv (can y) (fmul (can a) (can sc))
/-- by which function -/
def fromG (n a f sc : Nat) : Int → Nat := if n = 1 then upP a f sc else isoP f
def FromR (A : Nat → Addr) (k : Int) (lon lat : Int) (w : World) (e : Ending) (w' : World) : Prop := ∃ v, e = .returned (.tuple #[placeW lon lat, v]) ∧ ErrOf A k v ∧ Ext w w'

set_option maxHeartbeats 8000000 in
theorem from_bad {A : Nat → Addr} {s : ByteArray} {n : Nat} (h : KindIs s n) (a f : Nat) (mid : Int) (sc x y : Nat) (w : World) (h8 : World8 A w) (hk : 0 < papP (okG a f) n sc) :
    Calls Tryz.prog 22 #[paperV a f s mid sc, flatV x y] w (FromR A (papP (okG a f) n sc) 0 0 w) := by
  have HC0 : ∀ w, World8 A w → Calls Tryz.prog 61 #[paperV a f s mid sc] w fun e w' => ∃ p, e = .returned (errV p) ∧ ErrOf A (papP (okG a f) n sc) (errV p) ∧ Ext w w' := by
    intro w h8
    refine (pvalid_c h a f mid sc w h8).mono ?_
    rintro e w' ⟨v, rfl, hv, hx⟩
    generalize papP (okG a f) n sc = k at *
    cases hv
    case nil => exact absurd hk (by decide)
    all_goals exact ⟨_, rfl, by constructor, hx⟩
  generalize papP (okG a f) n sc = k at *
  have HC := Lib.hid HC0
  clear HC0 hk
  go_enter Tryz.func22, Tryz.ntmps22
  go_wp2_with (first
    | (go_at_call 61; go_must (refine (HC.out _ (h8.ext (by repeat (first | exact Ext.refl _ | refine Ext.alloc ?_ _)))).mono ?_; rintro e w1 ⟨p, rfl, hv, hx⟩; obtain ⟨hb1, hb2, hb3, hw⟩ := ext3 hx; clear hx hb1 hb2))
    | (refine wpList_own rfl 31 _ _ rfl _ _ rfl rfl _ _ hb3 (by kernel_rfl) rfl (by simp [Value.oneCell']) ?_; go_must (intro u bn en sn; replace hw := en w hw (by omega); have kc := bn.cell; clear sn en hb3)))
  exact bodyPost_ret (v := .tuple #[placeW 0 0, errV p]) (by simp [results, Tryz.results22, go_sem, kc]) rfl ⟨_, rfl, hv, hw⟩

theorem btw_yes {x lo hi : Nat} (h : btw x lo hi = true) : (FloatKind.f64.format.order x lo == some .gt || FloatKind.f64.format.order x lo == some .eq) = true ∧ (FloatKind.f64.format.order x hi == some .lt || FloatKind.f64.format.order x hi == some .eq) = true := by
  unfold btw at h
  rw [Bool.and_eq_true] at h
  exact h
theorem btw_no {x lo hi : Nat} (h : btw x lo hi = false) : (FloatKind.f64.format.order x lo == some .gt || FloatKind.f64.format.order x lo == some .eq) = false ∨ ((FloatKind.f64.format.order x lo == some .gt || FloatKind.f64.format.order x lo == some .eq) = true ∧ (FloatKind.f64.format.order x hi == some .lt || FloatKind.f64.format.order x hi == some .eq) = false) := by
  unfold btw at h
  cases h1 : fge x lo with
  | false => exact .inl h1
  | true => rw [h1, Bool.true_and] at h; exact .inr ⟨h1, h⟩

/-- the paper is one -/
theorem valid_ok {A : Nat → Addr} {s : ByteArray} {n : Nat} (h : KindIs s n) (a f : Nat) (mid : Int) (sc : Nat) (hk : papP (okG a f) n sc = 0) : ∀ w, World8 A w → Calls Tryz.prog 61 #[paperV a f s mid sc] w (ExR .nilIface w) := by
  intro w h8
  refine (pvalid_c h a f mid sc w h8).mono ?_
  rw [hk]
  rintro e w' ⟨v, rfl, hv, hx⟩
  cases hv
  exact ⟨rfl, hx⟩

set_option maxHeartbeats 8000000 in
theorem from_out {A : Nat → Addr} {s : ByteArray} {n : Nat} (h : KindIs s n) (a f : Nat) (mid : Int) (sc x y : Nat) (w : World) (h8 : World8 A w) (hk : papP (okG a f) n sc = 0) (ho : (btw x m1e8 c1e8 && btw y m1e8 c1e8) = false) :
    Calls Tryz.prog 22 #[paperV a f s mid sc, flatV x y] w (FromR A 4 0 0 w) := by
  have HC := Lib.hid (valid_ok (A := A) h a f mid sc hk)
  clear hk h
  rcases (show btw x m1e8 c1e8 = false ∨ btw x m1e8 c1e8 = true ∧ btw y m1e8 c1e8 = false by cases hb : btw x m1e8 c1e8 with | false => exact .inl rfl | true => rw [hb, Bool.true_and] at ho; exact .inr ⟨rfl, ho⟩) with hx | ⟨hx, hy⟩
  · clear ho
    rcases btw_no hx with o1 | ⟨o1, o2⟩
    all_goals
      clear hx
      go_enter Tryz.func22, Tryz.ntmps22
      go_wp2_with (first
        | (go_at_call 61; go_must (refine (HC.out _ (h8.ext (by repeat (first | exact Ext.refl _ | refine Ext.alloc ?_ _)))).mono ?_; rintro e w1 ⟨rfl, hx⟩; obtain ⟨hb1, hb2, hb3, hw⟩ := ext3 hx; have c1 := hb1.cell; have c2 := hb2.cell; have kg := (h8.ext hw).errs.cell 0 (by decide); clear hx)))
      have hl0 := cell_lt (h8.errs.cell 0 (by decide))
      have hne : ¬ (0 = w.heap.size + 1 + 1) := by omega
      have hne' : ¬ (w.heap.size + 1 + 1 = 0) := by omega
      have c3 := hb3.cell
      have f3 := hb3.frozen
      have hlt := hb3.lt
      clear hb1 hb2 HC c1 c2
      go_region
      all_goals go_wp2_with fail
      all_goals exact bodyPost_ret (v := .tuple #[placeW 0 0, errV (A 0)]) (by simp [results, Tryz.results22, go_sem, c3]) rfl ⟨_, rfl, .range, (by repeat (first | exact hw | refine Ext.drew ?_ | refine Ext.drewN ?_ _ | refine Ext.setCell ?_ (by simp; omega) _))⟩
  · clear ho
    obtain ⟨o1, o2⟩ := btw_yes hx
    rcases btw_no hy with o3 | ⟨o3, o4⟩
    all_goals
      clear hx hy
      go_enter Tryz.func22, Tryz.ntmps22
      go_wp2_with (first
        | (go_at_call 61; go_must (refine (HC.out _ (h8.ext (by repeat (first | exact Ext.refl _ | refine Ext.alloc ?_ _)))).mono ?_; rintro e w1 ⟨rfl, hx⟩; obtain ⟨hb1, hb2, hb3, hw⟩ := ext3 hx; have c1 := hb1.cell; have c2 := hb2.cell; have kg := (h8.ext hw).errs.cell 0 (by decide); clear hx)))
      have hl0 := cell_lt (h8.errs.cell 0 (by decide))
      have hne : ¬ (0 = w.heap.size + 1 + 1) := by omega
      have hne' : ¬ (w.heap.size + 1 + 1 = 0) := by omega
      have c3 := hb3.cell
      have f3 := hb3.frozen
      have hlt := hb3.lt
      clear hb1 hb2 HC c1 c2
      go_region
      all_goals go_wp2_with fail
      all_goals exact bodyPost_ret (v := .tuple #[placeW 0 0, errV (A 0)]) (by simp [results, Tryz.results22, go_sem, c3]) rfl ⟨_, rfl, .range, (by repeat (first | exact hw | refine Ext.drew ?_ | refine Ext.drewN ?_ _ | refine Ext.setCell ?_ (by simp; omega) _))⟩
end Go.Proofs.YtopedblojfnlnaaGreatDoor
