/- Walks: how much longer things are on paper: package flat's and the reference's. -/
import Derived.Test.YtddjppaccpioiaaDoorZM
namespace Go.Proofs.YtddjppaccpioiaaDoor
open Go.RowKit Go.Fp Go.Rel
set_option maxRecDepth 20000

def wQ (f : Nat) (lat : Int) : Nat := fsub (can kOne) (fmul (fmul (eccP f) (can (sinP lat))) (can (sinP lat)))
def mQ (a f : Nat) (lat : Int) : Nat := fdiv (fmul (can a) (fsub (can kOne) (eccP f))) (fmul (wQ f lat) (fsqrt (wQ f lat)))
def rQ (n a f sc : Nat) (lat : Int) : Nat := if n = 2 then downP a f sc lat else fmul (can a) (can sc)
def acP (n a f sc : Nat) (lat : Int) : Nat := fdiv (rQ n a f sc lat) (fmul (crossP a f lat) (can (cosP lat)))
def alP (n a f sc : Nat) (lat : Int) : Nat := if n = 1 then fdiv (can kOne) (acP n a f sc lat) else fdiv (fdiv (fmul (rQ n a f sc lat) (fsub (can kOne) (eccP f))) (fmul (wQ f lat) (can (cosP lat)))) (mQ a f lat)
def StrR (A : Nat → Addr) (k : Int) (X Y : Nat) (w : World) (e : Ending) (w' : World) : Prop := ∃ x y v, e = .returned (.tuple #[.float .f64 x, .float .f64 y, v]) ∧ ErrOf A k v ∧ can x = X ∧ can y = Y ∧ Ext w w'
def StrQ (X Y : Nat) (w : World) (e : Ending) (w' : World) : Prop := ∃ x y, e = .returned (.tuple #[.float .f64 x, .float .f64 y]) ∧ can x = X ∧ can y = Y ∧ Ext w w'

set_option maxHeartbeats 8000000 in
theorem stretch_bad {A : Nat → Addr} {s : ByteArray} {n : Nat} (h : KindIs s n) (a f : Nat) (mid : Int) (sc : Nat) (lon lat : Int) (w : World) (h8 : World8 A w) (hk : 0 < chkP (papP (okG a f) n sc) n lat) :
    Calls Tryd.prog 33 #[paperV a f s mid sc, placeW lon lat] w (StrR A (chkP (papP (okG a f) n sc) n lat) 0 0 w) := by
  have HC0 : ∀ w, World8 A w → Calls Tryd.prog 68 #[paperV a f s mid sc, placeW lon lat] w fun e w' => ∃ p, e = .returned (errV p) ∧ ErrOf A (chkP (papP (okG a f) n sc) n lat) (errV p) ∧ Ext w w' := by
    intro w h8
    refine (pcheck_c h a f mid sc lon lat w h8).mono ?_
    rintro e w' ⟨v, rfl, hv, hx⟩
    generalize chkP (papP (okG a f) n sc) n lat = k at *
    cases hv
    case nil => exact absurd hk (by decide)
    all_goals exact ⟨_, rfl, by constructor, hx⟩
  generalize chkP (papP (okG a f) n sc) n lat = k at *
  have HC := Lib.hid HC0
  clear HC0 hk
  go_enter Tryd.func33, Tryd.ntmps33
  go_wp2_with (first
    | (go_at_call 68; go_must (refine (HC.out _ (h8.ext (by repeat (first | exact Ext.refl _ | refine Ext.alloc ?_ _)))).mono ?_; rintro e w1 ⟨p, rfl, hv, hx⟩; obtain ⟨hb1, hb2, hw⟩ := ext2 hx; clear hx hb1 hb2)))
  exact bodyPost_ret (v := .tuple #[.float .f64 0, .float .f64 0, errV p]) (by simp [results, Tryd.results33, go_sem]) rfl ⟨_, _, _, rfl, hv, can0, can0, hw⟩

set_option maxHeartbeats 16000000 in
theorem stretch_ok {A : Nat → Addr} {s : ByteArray} {n : Nat} (h : KindIs s n) (a f : Nat) (mid : Int) (sc : Nat) (lon lat : Int) (w : World) (h8 : World8 A w) (hk : chkP (papP (okG a f) n sc) n lat = 0) (h3 : n ≠ 3) :
    Calls Tryd.prog 33 #[paperV a f s mid sc, placeW lon lat] w (StrR A 0 (alP n a f sc lat) (acP n a f sc lat) w) := by
  have HC0 : ∀ w, World8 A w → Calls Tryd.prog 68 #[paperV a f s mid sc, placeW lon lat] w (ExR .nilIface w) := by
    intro w h8
    refine (pcheck_c h a f mid sc lon lat w h8).mono ?_
    rw [hk]
    rintro e w' ⟨v, rfl, hv, hx⟩
    cases hv
    exact ⟨rfl, hx⟩
  have HC := Lib.hid HC0
  clear HC0 hk
  obtain ⟨X, hX⟩ : ∃ X, X = alP n a f sc lat := ⟨_, rfl⟩
  obtain ⟨Y, hY⟩ : ∃ Y, Y = acP n a f sc lat := ⟨_, rfl⟩
  rw [← hX, ← hY]
  have HX := Lib.hid hX
  have HY := Lib.hid hY
  clear hX hY
  cases h
  case not => exact absurd rfl h3
  all_goals
    clear h3
    go_enter Tryd.func33, Tryd.ntmps33
    go_wp2_with (first
      | (go_at_call 68; go_must (refine (HC.out _ (h8.ext (by repeat (first | exact Ext.refl _ | refine Ext.alloc ?_ _)))).mono ?_; rintro e w1 ⟨rfl, hx⟩; obtain ⟨hb1, hb2, hw⟩ := ext2 hx; have c1 := hb1.cell; have c2 := hb2.cell; clear hx))
      | (go_at_call 77; go_must (refine (ecc_c a f _).mono ?_; rintro e w2 ⟨e1, rfl, he1, hx⟩; replace hw := hw.trans (bareN hx rfl rfl rfl rfl); replace hb2 := hb2.ext (bareN hx rfl rfl rfl rfl); replace hb1 := hb1.ext (bareN hx rfl rfl rfl rfl); clear c1 c2 hx; have c1 := hb1.cell; have c2 := hb2.cell))
      | (go_at_call 44; go_must (refine (sin_c _ _).mono ?_; rintro e w2 ⟨rfl, hx⟩; replace hw := hw.trans (bareN hx rfl rfl rfl rfl); replace hb2 := hb2.ext (bareN hx rfl rfl rfl rfl); replace hb1 := hb1.ext (bareN hx rfl rfl rfl rfl); clear c1 c2 hx; have c1 := hb1.cell; have c2 := hb2.cell))
      | (go_at_call 45; go_must (refine (cos_c _ _).mono ?_; rintro e w2 ⟨rfl, hx⟩; replace hw := hw.trans (bareN hx rfl rfl rfl rfl); replace hb2 := hb2.ext (bareN hx rfl rfl rfl rfl); replace hb1 := hb1.ext (bareN hx rfl rfl rfl rfl); clear c1 c2 hx; have c1 := hb1.cell; have c2 := hb2.cell))
      | (go_at_call 63; go_must (refine (cross_c a f lat _).mono ?_; rintro e w2 ⟨n1, rfl, hn1, hx⟩; replace hw := hw.trans (bareN hx rfl rfl rfl rfl); replace hb2 := hb2.ext (bareN hx rfl rfl rfl rfl); replace hb1 := hb1.ext (bareN hx rfl rfl rfl rfl); clear c1 c2 hx; have c1 := hb1.cell; have c2 := hb2.cell))
      | (go_at_call 46; go_must (refine (sqrt_c _ _).mono ?_; rintro e w2 ⟨q1, rfl, hq1, hx⟩; replace hw := hw.trans (bareN hx rfl rfl rfl rfl); replace hb2 := hb2.ext (bareN hx rfl rfl rfl rfl); replace hb1 := hb1.ext (bareN hx rfl rfl rfl rfl); clear c1 c2 hx; have c1 := hb1.cell; have c2 := hb2.cell))
      | (go_at_call 70; go_must (refine (paperA_c a f _ mid sc _).mono ?_; rintro e w2 ⟨a1, rfl, ha1, hx⟩; replace hw := hw.trans (bareN hx rfl rfl rfl rfl); replace hb2 := hb2.ext (bareN hx rfl rfl rfl rfl); replace hb1 := hb1.ext (bareN hx rfl rfl rfl rfl); clear c1 c2 hx; have c1 := hb1.cell; have c2 := hb2.cell))
      | (go_at_call 69; go_must (refine (down_c a f _ mid sc lat _).mono ?_; rintro e w2 ⟨d1, rfl, hd1, hx⟩; replace hw := hw.trans (bareN hx rfl rfl rfl rfl); replace hb2 := hb2.ext (bareN hx rfl rfl rfl rfl); replace hb1 := hb1.ext (bareN hx rfl rfl rfl rfl); clear c1 c2 hx; have c1 := hb1.cell; have c2 := hb2.cell))
      | (with_reducible refine upon_fl rfl ?_; intro r n hr))
    clear c1 c2
    refine wp_region_all FU (by kernel_rfl) (by kernel_rfl) ?_
    repeat (first
      | (refine wpR_op rfl (fun w9 hw9 K hK => ?_); have k1 := (hb1.ext (bareN hw9 rfl rfl rfl rfl)).cell; have k2 := (hb2.ext (bareN hw9 rfl rfl rfl rfl)).cell; go_simp; refine hK _ ?_; clear hK K k1 k2 hw9 w9)
      | (refine wpR_op rfl (fun w9 hw9 K hK => ?_); go_simp; refine rel_call (ExR.call (sin_c _ _)) (fun v => ?_) (fun v hv => ?_); (simp [FU, spIntN_iff]); subst hv; refine hK _ ?_; clear hK K hw9 w9)
      | (refine wpR_op rfl (fun w9 hw9 K hK => ?_); go_simp; refine rel_call (ExR.call (cos_c _ _)) (fun v => ?_) (fun v hv => ?_); (simp [FU, spIntN_iff]); subst hv; refine hK _ ?_; clear hK K hw9 w9)
      | (refine wpR_op rfl (fun w9 hw9 K hK => ?_); go_simp; refine rel_fl rfl ?_; intro rx hrx; refine hK _ ?_; clear hK K hw9 w9))
    refine wpR_nil ?_
    intro w8 hx8 _
    replace hw := hw.trans (bareN hx8 rfl rfl rfl rfl)
    replace hb2 := hb2.ext (bareN hx8 rfl rfl rfl rfl)
    replace hb1 := hb1.ext (bareN hx8 rfl rfl rfl rfl)
    clear hx8
    have c1 := hb1.cell
    have c2 := hb2.cell
    go_wp2_with (first
      | (go_at_call 77; go_must (refine (ecc_c a f _).mono ?_; rintro e w2 ⟨e1, rfl, he1, hx⟩; replace hw := hw.trans (bareN hx rfl rfl rfl rfl); replace hb2 := hb2.ext (bareN hx rfl rfl rfl rfl); replace hb1 := hb1.ext (bareN hx rfl rfl rfl rfl); clear c1 c2 hx; have c1 := hb1.cell; have c2 := hb2.cell))
      | (go_at_call 44; go_must (refine (sin_c _ _).mono ?_; rintro e w2 ⟨rfl, hx⟩; replace hw := hw.trans (bareN hx rfl rfl rfl rfl); replace hb2 := hb2.ext (bareN hx rfl rfl rfl rfl); replace hb1 := hb1.ext (bareN hx rfl rfl rfl rfl); clear c1 c2 hx; have c1 := hb1.cell; have c2 := hb2.cell))
      | (go_at_call 45; go_must (refine (cos_c _ _).mono ?_; rintro e w2 ⟨rfl, hx⟩; replace hw := hw.trans (bareN hx rfl rfl rfl rfl); replace hb2 := hb2.ext (bareN hx rfl rfl rfl rfl); replace hb1 := hb1.ext (bareN hx rfl rfl rfl rfl); clear c1 c2 hx; have c1 := hb1.cell; have c2 := hb2.cell))
      | (go_at_call 63; go_must (refine (cross_c a f lat _).mono ?_; rintro e w2 ⟨n1, rfl, hn1, hx⟩; replace hw := hw.trans (bareN hx rfl rfl rfl rfl); replace hb2 := hb2.ext (bareN hx rfl rfl rfl rfl); replace hb1 := hb1.ext (bareN hx rfl rfl rfl rfl); clear c1 c2 hx; have c1 := hb1.cell; have c2 := hb2.cell))
      | (go_at_call 46; go_must (refine (sqrt_c _ _).mono ?_; rintro e w2 ⟨q1, rfl, hq1, hx⟩; replace hw := hw.trans (bareN hx rfl rfl rfl rfl); replace hb2 := hb2.ext (bareN hx rfl rfl rfl rfl); replace hb1 := hb1.ext (bareN hx rfl rfl rfl rfl); clear c1 c2 hx; have c1 := hb1.cell; have c2 := hb2.cell))
      | (go_at_call 70; go_must (refine (paperA_c a f _ mid sc _).mono ?_; rintro e w2 ⟨a1, rfl, ha1, hx⟩; replace hw := hw.trans (bareN hx rfl rfl rfl rfl); replace hb2 := hb2.ext (bareN hx rfl rfl rfl rfl); replace hb1 := hb1.ext (bareN hx rfl rfl rfl rfl); clear c1 c2 hx; have c1 := hb1.cell; have c2 := hb2.cell))
      | (go_at_call 69; go_must (refine (down_c a f _ mid sc lat _).mono ?_; rintro e w2 ⟨d1, rfl, hd1, hx⟩; replace hw := hw.trans (bareN hx rfl rfl rfl rfl); replace hb2 := hb2.ext (bareN hx rfl rfl rfl rfl); replace hb1 := hb1.ext (bareN hx rfl rfl rfl rfl); clear c1 c2 hx; have c1 := hb1.cell; have c2 := hb2.cell))
      | (with_reducible refine upon_fl rfl ?_; intro r n hr))
    clear c1 c2
    refine wp_region_all FU (by kernel_rfl) (by kernel_rfl) ?_
    repeat (first
      | (refine wpR_op rfl (fun w9 hw9 K hK => ?_); have k1 := (hb1.ext (bareN hw9 rfl rfl rfl rfl)).cell; have k2 := (hb2.ext (bareN hw9 rfl rfl rfl rfl)).cell; go_simp; refine hK _ ?_; clear hK K k1 k2 hw9 w9)
      | (refine wpR_op rfl (fun w9 hw9 K hK => ?_); go_simp; refine rel_call (FlR.call (sqrt_c _ _)) (fun v => ?_) (fun v hv => ?_); (simp [FU, spOne_iff]); obtain ⟨rq, rfl, hrq⟩ := hv; refine hK _ ?_; clear hK K hw9 w9)
      | (refine wpR_op rfl (fun w9 hw9 K hK => ?_); go_simp; refine rel_fl rfl ?_; intro rx hrx; refine hK _ ?_; clear hK K hw9 w9))
    refine wpR_nil ?_
    intro w8 hx8 _
    replace hw := hw.trans (bareN hx8 rfl rfl rfl rfl)
    replace hb2 := hb2.ext (bareN hx8 rfl rfl rfl rfl)
    replace hb1 := hb1.ext (bareN hx8 rfl rfl rfl rfl)
    clear hx8
    have c1 := hb1.cell
    have c2 := hb2.cell
    go_wp2_with (first
      | (go_at_call 77; go_must (refine (ecc_c a f _).mono ?_; rintro e w2 ⟨e1, rfl, he1, hx⟩; replace hw := hw.trans (bareN hx rfl rfl rfl rfl); replace hb2 := hb2.ext (bareN hx rfl rfl rfl rfl); replace hb1 := hb1.ext (bareN hx rfl rfl rfl rfl); clear c1 c2 hx; have c1 := hb1.cell; have c2 := hb2.cell))
      | (go_at_call 44; go_must (refine (sin_c _ _).mono ?_; rintro e w2 ⟨rfl, hx⟩; replace hw := hw.trans (bareN hx rfl rfl rfl rfl); replace hb2 := hb2.ext (bareN hx rfl rfl rfl rfl); replace hb1 := hb1.ext (bareN hx rfl rfl rfl rfl); clear c1 c2 hx; have c1 := hb1.cell; have c2 := hb2.cell))
      | (go_at_call 45; go_must (refine (cos_c _ _).mono ?_; rintro e w2 ⟨rfl, hx⟩; replace hw := hw.trans (bareN hx rfl rfl rfl rfl); replace hb2 := hb2.ext (bareN hx rfl rfl rfl rfl); replace hb1 := hb1.ext (bareN hx rfl rfl rfl rfl); clear c1 c2 hx; have c1 := hb1.cell; have c2 := hb2.cell))
      | (go_at_call 63; go_must (refine (cross_c a f lat _).mono ?_; rintro e w2 ⟨n1, rfl, hn1, hx⟩; replace hw := hw.trans (bareN hx rfl rfl rfl rfl); replace hb2 := hb2.ext (bareN hx rfl rfl rfl rfl); replace hb1 := hb1.ext (bareN hx rfl rfl rfl rfl); clear c1 c2 hx; have c1 := hb1.cell; have c2 := hb2.cell))
      | (go_at_call 46; go_must (refine (sqrt_c _ _).mono ?_; rintro e w2 ⟨q1, rfl, hq1, hx⟩; replace hw := hw.trans (bareN hx rfl rfl rfl rfl); replace hb2 := hb2.ext (bareN hx rfl rfl rfl rfl); replace hb1 := hb1.ext (bareN hx rfl rfl rfl rfl); clear c1 c2 hx; have c1 := hb1.cell; have c2 := hb2.cell))
      | (go_at_call 70; go_must (refine (paperA_c a f _ mid sc _).mono ?_; rintro e w2 ⟨a1, rfl, ha1, hx⟩; replace hw := hw.trans (bareN hx rfl rfl rfl rfl); replace hb2 := hb2.ext (bareN hx rfl rfl rfl rfl); replace hb1 := hb1.ext (bareN hx rfl rfl rfl rfl); clear c1 c2 hx; have c1 := hb1.cell; have c2 := hb2.cell))
      | (go_at_call 69; go_must (refine (down_c a f _ mid sc lat _).mono ?_; rintro e w2 ⟨d1, rfl, hd1, hx⟩; replace hw := hw.trans (bareN hx rfl rfl rfl rfl); replace hb2 := hb2.ext (bareN hx rfl rfl rfl rfl); replace hb1 := hb1.ext (bareN hx rfl rfl rfl rfl); clear c1 c2 hx; have c1 := hb1.cell; have c2 := hb2.cell))
      | (with_reducible refine upon_fl rfl ?_; intro r n hr))
  all_goals
    refine bodyPost_ret (v := .tuple #[.float .f64 _, .float .f64 _, .nilIface]) (by simp [results, Tryd.results33, go_sem]; exact ⟨rfl, rfl⟩) rfl ⟨_, _, _, rfl, .nil, ?_, ?_, (by repeat (first | exact hw | refine Ext.drewN ?_ _))⟩
    · rw [HX.out]; simp [alP, acP, rQ, wQ, mQ, *, fbin]
    · rw [HY.out]; simp [acP, rQ, *, fbin]

end Go.Proofs.YtddjppaccpioiaaDoor

/- The walk of the statement FlatStretch. -/
namespace Go.Proofs.YtddjppaccpioiaaDoor
open Go.RowKit Go.Fp Go.Rel
set_option maxRecDepth 20000

theorem can_zero {x : Nat} (h : can x = 0) : x = 0 := by
  cases hn : isNan x with
  | false => rw [can_of_not hn] at h; exact h
  | true => rw [can_of_nan hn] at h; exact absurd h (by decide)
def isStr (A : Nat → Addr) (k : Int) (X Y : Nat) (v : Value) : Prop := ∃ x y u, v = .tuple #[.float .f64 x, .float .f64 y, u] ∧ ErrOf A k u ∧ can x = X ∧ can y = Y
theorem StrR.call {P : Program} {f : FuncId} {args : Array Value} {A : Nat → Addr} {k : Int} {X Y : Nat} {W : World} (h : Calls P f args W (StrR A k X Y W)) : Calls P f args W (fun e w' => ∃ v, e = .returned v ∧ isStr A k X Y v ∧ Ext W w') :=
  h.mono fun _ _ ⟨x, y, u, he, hu, hx, hy, hw⟩ => ⟨_, he, ⟨x, y, u, rfl, hu, hx, hy⟩, hw⟩
end Go.Proofs.YtddjppaccpioiaaDoor

/- Walks: the greatest latitude at which a function is at most a number: package flat's found and the reference's. -/
namespace Go.Proofs.YtddjppaccpioiaaDoor
open Go.RowKit Go.Fp Go.Rel
set_option maxRecDepth 20000

/-- at most -/
def leW (y X : Nat) : Bool := D.order y X == some .lt || D.order y X == some .eq
/-- r is what halving finds between lo and hi -/
inductive LatIs (g : Int → Nat) (X : Nat) : Int → Int → Int → Prop
  | done {lo hi : Int} (h : hi - lo ≤ 1) : LatIs g X lo hi lo
  | low {lo hi r : Int} (h : 1 < hi - lo) (hl : leW (g ((lo + hi) / 2)) X = true) (hr : LatIs g X ((lo + hi) / 2) hi r) : LatIs g X lo hi r
  | high {lo hi r : Int} (h : 1 < hi - lo) (hl : leW (g ((lo + hi) / 2)) X = false) (hr : LatIs g X lo ((lo + hi) / 2) r) : LatIs g X lo hi r
theorem lat_some (g : Int → Nat) (X : Nat) : ∀ (n : Nat) (lo hi : Int), (hi - lo).toNat ≤ n → ∃ r, LatIs g X lo hi r
  | 0, lo, hi, h => ⟨lo, .done (by omega)⟩
  | n + 1, lo, hi, h => by
    by_cases hd : hi - lo ≤ 1
    · exact ⟨lo, .done hd⟩
    · cases hl : leW (g ((lo + hi) / 2)) X with
      | true =>
        obtain ⟨r, hr⟩ := lat_some g X n ((lo + hi) / 2) hi (by omega)
        exact ⟨r, .low (by omega) hl hr⟩
      | false =>
        obtain ⟨r, hr⟩ := lat_some g X n lo ((lo + hi) / 2) (by omega)
        exact ⟨r, .high (by omega) hl hr⟩
theorem LatIs.bounds {g : Int → Nat} {X : Nat} {lo hi r : Int} (h : LatIs g X lo hi r) (hlt : lo < hi) : lo ≤ r ∧ r < hi := by
  induction h with
  | done h => omega
  | low h _ _ ih => have := ih (by omega); omega
  | high h _ _ ih => have := ih (by omega); omega
/-- the latitude of a number -/
abbrev LatOk (g : Int → Nat) (X : Nat) (r : Int) : Prop := LatIs g X (-89000000000) 89000000001 r
theorem leW_can {y x : Nat} {E : Nat} (hy : can y = E) : leW E (can x) = (FloatKind.f64.format.order y x == some .lt || FloatKind.f64.format.order y x == some .eq) := by
  unfold leW
  rw [← hy, order_can]
  rfl
theorem leW_yes {y x E : Nat} (hy : can y = E) (h : leW E (can x) = true) : FloatKind.f64.format.order y x = some .lt ∨ FloatKind.f64.format.order y x = some .eq := by
  rw [leW_can hy, Bool.or_eq_true, beq_iff_eq, beq_iff_eq] at h
  exact h
theorem leW_no {y x E : Nat} (hy : can y = E) (h : leW E (can x) = false) : (FloatKind.f64.format.order y x == some .lt) = false ∧ (FloatKind.f64.format.order y x == some .eq) = false := by
  rw [leW_can hy, Bool.or_eq_false_iff] at h
  exact h

set_option maxHeartbeats 8000000 in
theorem found_lat (cap : Value) (g : Int → Nat) (x : Nat) (r : Int) (w : World) (hI : LatOk g (can x) r)
    (hc : ∀ m w', Ext w w' → Calls Tryd.prog 87 #[.int .i64 m, cap] w' (FlR (g m) w')) : Calls Tryd.prog 76 #[.func (.func 87) #[] #[cap], .float .f64 x] w (ExR (.int .i64 r) w) := by
  have HC := Lib.hid hc
  have HI := Lib.hid hI
  clear hc hI
  go_enter Tryd.func76, Tryd.ntmps76
  go_wp2_with fail
  go_loopw [5, 6] (fun lv hv wr => ∃ lo hi : Int, lv = .int .i64 lo ∧ hv = .int .i64 hi ∧ LatIs g (can x) lo hi r ∧ -89000000000 ≤ lo ∧ hi ≤ 89000000001 ∧ lo < hi ∧ Ext w wr) (fun lv hv _ => (intOf hv - intOf lv).toNat)
  case atStart => exact ⟨_, _, rfl, rfl, HI.out, by omega, by omega, by omega, Ext.refl _⟩
  case round =>
    clear HI
    obtain ⟨lo, hi, rfl, rfl, hI, b1, b2, b3, hw⟩ := hrel
    cases hI with
    | done h =>
      go_wp2_with fail
      go_ret
      exact ⟨rfl, hw⟩
    | low h hl hr =>
      have HL := Lib.hid hl
      have HR := Lib.hid hr
      have S1 : (lo + hi) >>> 1 = (lo + hi) / 2 := Int.shiftRight_eq_div_pow _ _
      clear hl hr
      go_wp2_with fail
      refine (HC.out _ _ hw).mono ?_
      rintro e w2 ⟨y, rfl, hy, hx⟩
      have hw2 := hw.trans hx
      clear hw hx
      have B1 : lo < (lo + hi) / 2 := by omega
      have B2 : (lo + hi) / 2 < hi := by omega
      have HB := Lib.hid (And.intro B1 B2)
      clear B1 B2
      rcases leW_yes hy HL.out with o1 | o1
      all_goals
        go_wp2_with fail
        go_roundw
        case rel =>
          have B1 := HB.out.1
          have B2 := HB.out.2
          exact ⟨_, _, rfl, rfl, HR.out, by omega, by omega, by omega, hw2⟩
        case measure =>
          have B1 := HB.out.1
          have B2 := HB.out.2
          simp [intOf]; omega
    | high h hl hr =>
      have HL := Lib.hid hl
      have HR := Lib.hid hr
      have S1 : (lo + hi) >>> 1 = (lo + hi) / 2 := Int.shiftRight_eq_div_pow _ _
      clear hl hr
      go_wp2_with fail
      refine (HC.out _ _ hw).mono ?_
      rintro e w2 ⟨y, rfl, hy, hx⟩
      have hw2 := hw.trans hx
      clear hw hx
      have B1 : lo < (lo + hi) / 2 := by omega
      have B2 : (lo + hi) / 2 < hi := by omega
      have HB := Lib.hid (And.intro B1 B2)
      clear B1 B2
      obtain ⟨o1, o2⟩ := leW_no hy HL.out
      go_wp2_with fail
      go_roundw
      case rel =>
        have B1 := HB.out.1
        have B2 := HB.out.2
        exact ⟨_, _, rfl, rfl, HR.out, by omega, by omega, by omega, hw2⟩
      case measure =>
        have B1 := HB.out.1
        have B2 := HB.out.2
        simp [intOf]; omega
set_option maxHeartbeats 8000000 in
theorem found_up (pv : Value) (g : Int → Nat) (x : Nat) (r : Int) (w : World) (hI : LatOk g (can x) r)
    (hc : ∀ m w', Ext w w' → Calls Tryd.prog 72 #[pv, .int .i64 m] w' (FlR (g m) w')) : Calls Tryd.prog 76 #[.func (.func 72) #[pv] #[], .float .f64 x] w (ExR (.int .i64 r) w) := by
  have HC := Lib.hid hc
  have HI := Lib.hid hI
  clear hc hI
  go_enter Tryd.func76, Tryd.ntmps76
  go_wp2_with fail
  go_loopw [5, 6] (fun lv hv wr => ∃ lo hi : Int, lv = .int .i64 lo ∧ hv = .int .i64 hi ∧ LatIs g (can x) lo hi r ∧ -89000000000 ≤ lo ∧ hi ≤ 89000000001 ∧ lo < hi ∧ Ext w wr) (fun lv hv _ => (intOf hv - intOf lv).toNat)
  case atStart => exact ⟨_, _, rfl, rfl, HI.out, by omega, by omega, by omega, Ext.refl _⟩
  case round =>
    clear HI
    obtain ⟨lo, hi, rfl, rfl, hI, b1, b2, b3, hw⟩ := hrel
    cases hI with
    | done h =>
      go_wp2_with fail
      go_ret
      exact ⟨rfl, hw⟩
    | low h hl hr =>
      have HL := Lib.hid hl
      have HR := Lib.hid hr
      have S1 : (lo + hi) >>> 1 = (lo + hi) / 2 := Int.shiftRight_eq_div_pow _ _
      clear hl hr
      go_wp2_with fail
      refine (HC.out _ _ hw).mono ?_
      rintro e w2 ⟨y, rfl, hy, hx⟩
      have hw2 := hw.trans hx
      clear hw hx
      have B1 : lo < (lo + hi) / 2 := by omega
      have B2 : (lo + hi) / 2 < hi := by omega
      have HB := Lib.hid (And.intro B1 B2)
      clear B1 B2
      rcases leW_yes hy HL.out with o1 | o1
      all_goals
        go_wp2_with fail
        go_roundw
        case rel =>
          have B1 := HB.out.1
          have B2 := HB.out.2
          exact ⟨_, _, rfl, rfl, HR.out, by omega, by omega, by omega, hw2⟩
        case measure =>
          have B1 := HB.out.1
          have B2 := HB.out.2
          simp [intOf]; omega
    | high h hl hr =>
      have HL := Lib.hid hl
      have HR := Lib.hid hr
      have S1 : (lo + hi) >>> 1 = (lo + hi) / 2 := Int.shiftRight_eq_div_pow _ _
      clear hl hr
      go_wp2_with fail
      refine (HC.out _ _ hw).mono ?_
      rintro e w2 ⟨y, rfl, hy, hx⟩
      have hw2 := hw.trans hx
      clear hw hx
      have B1 : lo < (lo + hi) / 2 := by omega
      have B2 : (lo + hi) / 2 < hi := by omega
      have HB := Lib.hid (And.intro B1 B2)
      clear B1 B2
      obtain ⟨o1, o2⟩ := leW_no hy HL.out
      go_wp2_with fail
      go_roundw
      case rel =>
        have B1 := HB.out.1
        have B2 := HB.out.2
        exact ⟨_, _, rfl, rfl, HR.out, by omega, by omega, by omega, hw2⟩
      case measure =>
        have B1 := HB.out.1
        have B2 := HB.out.2
        simp [intOf]; omega
set_option maxHeartbeats 4000000 in
theorem latFn_c (a f : Nat) (n : Nat) (m : Int) (w : World) (hb : Blk w n 35 #[.float .f64 a, .float .f64 f]) : Calls Tryd.prog 87 #[.int .i64 m, ptr n] w (FlR (isoP f m) w) := by
  have c1 := hb.cell
  go_enter Tryd.func87, Tryd.ntmps87
  go_wp2_with (first
    | (go_at_call 71; go_must (refine (iso_c a f m _).mono ?_; rintro e w2 ⟨r2, rfl, hr2, hx⟩)))
  go_ret
  exact ⟨_, rfl, hr2, hx⟩
set_option maxHeartbeats 4000000 in
theorem lat_c (a f x : Nat) (r : Int) (w : World) (hI : LatOk (isoP f) (can x) r) : Calls Tryd.prog 66 #[globeV a f, .float .f64 x] w (ExR (.int .i64 r) w) := by
  have hb := Blk.new w #[.float .f64 a, .float .f64 f] 35
  have HF : Hid (Calls Tryd.prog 76 #[.func (.func 87) #[] #[ptr w.heap.size], .float .f64 x] (w.alloc (.cells #[.float .f64 a, .float .f64 f] 35)) (ExR (.int .i64 r) (w.alloc (.cells #[.float .f64 a, .float .f64 f] 35)))) :=
    found_lat _ (isoP f) x r _ hI (fun m w' hx => latFn_c a f _ m w' (hb.ext hx))
  clear hI hb
  go_enter Tryd.func66, Tryd.ntmps66
  go_wp2_with (first
    | (go_at_call 76; go_must (refine HF.out.mono ?_; rintro e w2 ⟨rfl, hx⟩; have hw := (ext1 hx).2)))
  go_ret
  exact ⟨rfl, hw⟩
end Go.Proofs.YtddjppaccpioiaaDoor

/- Walks: the greatest latitude at which a function is at most a number: the reference's. -/
namespace Go.Proofs.YtddjppaccpioiaaDoor
open Go.RowKit Go.Fp Go.Rel
set_option maxRecDepth 20000

end Go.Proofs.YtddjppaccpioiaaDoor

/- Walks: of which place a point of paper is: package flat's. -/
namespace Go.Proofs.YtddjppaccpioiaaDoor
open Go.RowKit Go.Fp Go.Rel
set_option maxRecDepth 20000

abbrev c32 : Nat := 4614388178203810202
abbrev m32 : Nat := 13837760215058586010
abbrev c1e8 : Nat := 4726483295884279808
abbrev m1e8 : Nat := 13949855332739055616
/-- the east of a point over the paper's size -/
def eastQ (a sc X : Nat) : Nat := fdiv X (fmul (can a) (can sc))
def farQ (L : Nat) : Bool := D.order L c32 == some .gt || D.order L m32 == some .lt
/-- the error's number of a point on a paper -/
def fromK (kp : Int) (n a sc x y : Nat) : Int := if 0 < kp then kp else if (btw x m1e8 c1e8 && btw y m1e8 c1e8) = false then 4 else if n = 2 then 0 else if farQ (eastQ a sc (can x)) = true then 4 else 0
/-- its longitude -/
def fromLon (n a sc x y : Nat) (mid : Int) : Int := if n = 2 then signP (IntKind.i64.wrap (normP mid + (angleP (can x) (negC (can y))).1)) else signP (IntKind.i64.wrap (normP mid + nearP (eastQ a sc (can x))))
/-- whose latitude is asked for -/
def fromY (n a f sc x y : Nat) : Nat := if n = 2 then negC (can (lnP (fdiv (fmul (fsqrt (fadd (fmul (can x) (can x)) (fmul (can y) (can y)))) (poleP f)) (fmul (can kTwo) (fmul (can a) (can sc)))))) else if n = 1 then can y else fdiv (can y) (fmul (can a) (can sc))
/-- by which function -/
def fromG (n a f sc : Nat) : Int → Nat := if n = 1 then upP a f sc else isoP f
def FromR (A : Nat → Addr) (k : Int) (lon lat : Int) (w : World) (e : Ending) (w' : World) : Prop := ∃ v, e = .returned (.tuple #[placeW lon lat, v]) ∧ ErrOf A k v ∧ Ext w w'

set_option maxHeartbeats 8000000 in
theorem from_bad {A : Nat → Addr} {s : ByteArray} {n : Nat} (h : KindIs s n) (a f : Nat) (mid : Int) (sc x y : Nat) (w : World) (h8 : World8 A w) (hk : 0 < papP (okG a f) n sc) :
    Calls Tryd.prog 32 #[paperV a f s mid sc, flatV x y] w (FromR A (papP (okG a f) n sc) 0 0 w) := by
  have HC0 : ∀ w, World8 A w → Calls Tryd.prog 73 #[paperV a f s mid sc] w fun e w' => ∃ p, e = .returned (errV p) ∧ ErrOf A (papP (okG a f) n sc) (errV p) ∧ Ext w w' := by
    intro w h8
    refine (pvalid_c h a f mid sc w h8).mono ?_
    rintro e w' ⟨v, rfl, hv, hx⟩
    generalize papP (okG a f) n sc = k at *
    cases hv
    case nil => exact absurd hk (by decide)
    all_goals exact ⟨_, rfl, by constructor, hx⟩
  generalize papP (okG a f) n sc = k at *
  have HC := Lib.hid HC0
  clear HC0 hk
  go_enter Tryd.func32, Tryd.ntmps32
  go_wp2_with (first
    | (go_at_call 73; go_must (refine (HC.out _ (h8.ext (by repeat (first | exact Ext.refl _ | refine Ext.alloc ?_ _)))).mono ?_; rintro e w1 ⟨p, rfl, hv, hx⟩; obtain ⟨hb1, hb2, hb3, hw⟩ := ext3 hx; clear hx hb1 hb2))
    | (refine wpList_own rfl 26 _ _ rfl _ _ rfl rfl _ _ hb3 (by kernel_rfl) rfl (by simp [Value.oneCell']) ?_; go_must (intro u bn en sn; replace hw := en w hw (by omega); have kc := bn.cell; clear sn en hb3)))
  exact bodyPost_ret (v := .tuple #[placeW 0 0, errV p]) (by simp [results, Tryd.results32, go_sem, kc]) rfl ⟨_, rfl, hv, hw⟩

theorem btw_yes {x lo hi : Nat} (h : btw x lo hi = true) : (FloatKind.f64.format.order x lo == some .gt || FloatKind.f64.format.order x lo == some .eq) = true ∧ (FloatKind.f64.format.order x hi == some .lt || FloatKind.f64.format.order x hi == some .eq) = true := by
  unfold btw at h
  rw [Bool.and_eq_true] at h
  exact h
theorem btw_no {x lo hi : Nat} (h : btw x lo hi = false) : (FloatKind.f64.format.order x lo == some .gt || FloatKind.f64.format.order x lo == some .eq) = false ∨ ((FloatKind.f64.format.order x lo == some .gt || FloatKind.f64.format.order x lo == some .eq) = true ∧ (FloatKind.f64.format.order x hi == some .lt || FloatKind.f64.format.order x hi == some .eq) = false) := by
  unfold btw at h
  cases h1 : fge x lo with
  | false => exact .inl h1
  | true => rw [h1, Bool.true_and] at h; exact .inr ⟨h1, h⟩

/-- the paper is one -/
theorem valid_ok {A : Nat → Addr} {s : ByteArray} {n : Nat} (h : KindIs s n) (a f : Nat) (mid : Int) (sc : Nat) (hk : papP (okG a f) n sc = 0) : ∀ w, World8 A w → Calls Tryd.prog 73 #[paperV a f s mid sc] w (ExR .nilIface w) := by
  intro w h8
  refine (pvalid_c h a f mid sc w h8).mono ?_
  rw [hk]
  rintro e w' ⟨v, rfl, hv, hx⟩
  cases hv
  exact ⟨rfl, hx⟩

set_option maxHeartbeats 8000000 in
theorem from_out {A : Nat → Addr} {s : ByteArray} {n : Nat} (h : KindIs s n) (a f : Nat) (mid : Int) (sc x y : Nat) (w : World) (h8 : World8 A w) (hk : papP (okG a f) n sc = 0) (ho : (btw x m1e8 c1e8 && btw y m1e8 c1e8) = false) :
    Calls Tryd.prog 32 #[paperV a f s mid sc, flatV x y] w (FromR A 4 0 0 w) := by
  have HC := Lib.hid (valid_ok (A := A) h a f mid sc hk)
  clear hk h
  rcases (show btw x m1e8 c1e8 = false ∨ btw x m1e8 c1e8 = true ∧ btw y m1e8 c1e8 = false by cases hb : btw x m1e8 c1e8 with | false => exact .inl rfl | true => rw [hb, Bool.true_and] at ho; exact .inr ⟨rfl, ho⟩) with hx | ⟨hx, hy⟩
  · clear ho
    rcases btw_no hx with o1 | ⟨o1, o2⟩
    all_goals
      clear hx
      go_enter Tryd.func32, Tryd.ntmps32
      go_wp2_with (first
        | (go_at_call 73; go_must (refine (HC.out _ (h8.ext (by repeat (first | exact Ext.refl _ | refine Ext.alloc ?_ _)))).mono ?_; rintro e w1 ⟨rfl, hx⟩; obtain ⟨hb1, hb2, hb3, hw⟩ := ext3 hx; have c1 := hb1.cell; have c2 := hb2.cell; have kg := (h8.ext hw).errs.cell 0 (by decide); clear hx)))
      have hl0 := cell_lt (h8.errs.cell 0 (by decide))
      have hne : ¬ (0 = w.heap.size + 1 + 1) := by omega
      have hne' : ¬ (w.heap.size + 1 + 1 = 0) := by omega
      have c3 := hb3.cell
      have f3 := hb3.frozen
      have hlt := hb3.lt
      clear hb1 hb2 HC c1 c2
      go_region
      all_goals go_wp2_with fail
      all_goals exact bodyPost_ret (v := .tuple #[placeW 0 0, errV (A 0)]) (by simp [results, Tryd.results32, go_sem, c3]) rfl ⟨_, rfl, .range, (by repeat (first | exact hw | refine Ext.drew ?_ | refine Ext.drewN ?_ _ | refine Ext.setCell ?_ (by simp; omega) _))⟩
  · clear ho
    obtain ⟨o1, o2⟩ := btw_yes hx
    rcases btw_no hy with o3 | ⟨o3, o4⟩
    all_goals
      clear hx hy
      go_enter Tryd.func32, Tryd.ntmps32
      go_wp2_with (first
        | (go_at_call 73; go_must (refine (HC.out _ (h8.ext (by repeat (first | exact Ext.refl _ | refine Ext.alloc ?_ _)))).mono ?_; rintro e w1 ⟨rfl, hx⟩; obtain ⟨hb1, hb2, hb3, hw⟩ := ext3 hx; have c1 := hb1.cell; have c2 := hb2.cell; have kg := (h8.ext hw).errs.cell 0 (by decide); clear hx)))
      have hl0 := cell_lt (h8.errs.cell 0 (by decide))
      have hne : ¬ (0 = w.heap.size + 1 + 1) := by omega
      have hne' : ¬ (w.heap.size + 1 + 1 = 0) := by omega
      have c3 := hb3.cell
      have f3 := hb3.frozen
      have hlt := hb3.lt
      clear hb1 hb2 HC c1 c2
      go_region
      all_goals go_wp2_with fail
      all_goals exact bodyPost_ret (v := .tuple #[placeW 0 0, errV (A 0)]) (by simp [results, Tryd.results32, go_sem, c3]) rfl ⟨_, rfl, .range, (by repeat (first | exact hw | refine Ext.drew ?_ | refine Ext.drewN ?_ _ | refine Ext.setCell ?_ (by simp; omega) _))⟩
end Go.Proofs.YtddjppaccpioiaaDoor

/- Walks: of which place a point of paper is: package flat's, where the point lies on the paper. -/
namespace Go.Proofs.YtddjppaccpioiaaDoor
open Go.RowKit Go.Fp Go.Rel
set_option maxRecDepth 20000

def FTL (r : Int) (g : FuncId) (args : Array Value) (v : Value) : Prop := FT g args v ∨ (g = 66 ∧ v = .int .i64 r)
theorem ftl_r (r : Int) (args : Array Value) (v : Value) : FTL r 66 args v ↔ v = .int .i64 r := by
  unfold FTL FT FU
  simp
set_option maxHeartbeats 8000000 in
theorem from_pol {A : Nat → Addr} (a f : Nat) (mid : Int) (sc x y : Nat) (r : Int) (w : World) (h8 : World8 A w) (hk : papP (okG a f) 2 sc = 0) (hx : btw x m1e8 c1e8 = true) (hy : btw y m1e8 c1e8 = true) (hI : LatOk (isoP f) (fromY 2 a f sc x y) r) :
    Calls Tryd.prog 32 #[paperV a f sPol mid sc, flatV x y] w (FromR A 0 (fromLon 2 a sc x y mid) r w) := by
  have HC := Lib.hid (valid_ok (A := A) KindIs.pol a f mid sc hk)
  obtain ⟨Y, hY⟩ : ∃ Y, Y = fromY 2 a f sc x y := ⟨_, rfl⟩
  rw [← hY] at hI
  have HL : Hid (∀ x', can x' = Y → ∀ w, Calls Tryd.prog 66 #[globeV a f, .float .f64 x'] w (ExR (.int .i64 r) w)) := Lib.hid (fun x' h w => lat_c a f x' r w (by rw [h]; exact hI))
  have HY := Lib.hid hY
  obtain ⟨L, hL⟩ : ∃ L, L = (angleP (can x) (can (Op.negFloat .f64 y))).1 := ⟨_, rfl⟩
  obtain ⟨M, hM⟩ : ∃ M, M = IntKind.i64.wrap (normP mid + L) := ⟨_, rfl⟩
  have HLon : Hid (fromLon 2 a sc x y mid = signP M) := by
    show fromLon 2 a sc x y mid = signP M
    rw [hM, hL, neg_can]; rfl
  have HM := Lib.hid hM
  have HLL := Lib.hid hL
  clear hk hY hI hM hL
  obtain ⟨o1, o2⟩ := btw_yes hx
  obtain ⟨o3, o4⟩ := btw_yes hy
  clear hx hy
  go_enter Tryd.func32, Tryd.ntmps32
  go_wp2_with (first
    | (go_at_call 73; go_must (refine (HC.out _ (h8.ext (by repeat (first | exact Ext.refl _ | refine Ext.alloc ?_ _)))).mono ?_; rintro e w1 ⟨rfl, hx⟩; obtain ⟨hb1, hb2, hb3, hw⟩ := ext3 hx; have c1 := hb1.cell; have c2 := hb2.cell; clear hx))
    | (go_at_call 42; go_must (refine (norm_c _ _).mono ?_; rintro e w2 ⟨rfl, rfl⟩))
    | (go_at_call 46; go_must (refine (sqrt_c _ _).mono ?_; rintro e w2 ⟨rq, rfl, hrq, hx⟩; replace hw := hw.trans (bareN hx rfl rfl rfl rfl); replace hb3 := hb3.ext (bareN hx rfl rfl rfl rfl); replace hb2 := hb2.ext (bareN hx rfl rfl rfl rfl); replace hb1 := hb1.ext (bareN hx rfl rfl rfl rfl); clear c1 c2 hx; have c1 := hb1.cell; have c2 := hb2.cell))
    | (go_at_call 47; go_must (refine (angle_c _ _ _).mono ?_; rintro e w2 ⟨rfl, hx⟩; replace hw := hw.trans (bareN hx rfl rfl rfl rfl); replace hb3 := hb3.ext (bareN hx rfl rfl rfl rfl); replace hb2 := hb2.ext (bareN hx rfl rfl rfl rfl); replace hb1 := hb1.ext (bareN hx rfl rfl rfl rfl); clear c1 c2 hx; have c1 := hb1.cell; have c2 := hb2.cell))
    | (with_reducible refine upon_fl rfl ?_; intro r0 n hr))
  rw [← HLL.out]
  have W1 := HM.out.symm
  clear c1 c2 o1 o2 o3 o4
  refine wp_region_head 18 (FTL r) (by kernel_rfl) (by kernel_rfl) ?_
  simp only [List.take_succ_cons, List.take_zero, List.drop_succ_cons, List.drop_zero]
  repeat (first
    | (refine wpR_op rfl (fun w9 hw9 K hK => ?_); have k1 := (hb1.ext (bareN hw9 rfl rfl rfl rfl)).cell; go_simp; refine hK _ ?_; clear hK K k1 hw9 w9)
    | (refine wpR_op rfl (fun w9 hw9 K hK => ?_); go_simp; refine rel_call (ExR.call (signed_c _ _)) (fun v => ?_) (fun v hv => ?_); (simp [FTL, FT, FU, spNorm_iff]); subst hv; refine hK _ ?_; clear hK K hw9 w9)
    | (refine wpR_op rfl (fun w9 hw9 K hK => ?_); go_simp; refine rel_call (FlR.call (paperA_c a f _ mid sc _)) (fun v => ?_) (fun v hv => ?_); (simp [FTL, FT, FU, spPap_iff]); obtain ⟨ra, rfl, hra⟩ := hv; refine hK _ ?_; clear hK K hw9 w9)
    | (refine wpR_op rfl (fun w9 hw9 K hK => ?_); go_simp; refine rel_call (FlR.call (pole_c a f _ mid sc _)) (fun v => ?_) (fun v hv => ?_); (simp [FTL, FT, FU, spPap_iff]); obtain ⟨ro, rfl, hro⟩ := hv; refine hK _ ?_; clear hK K hw9 w9)
    | (refine wpR_op rfl (fun w9 hw9 K hK => ?_); go_simp; refine rel_fl rfl ?_; intro rx hrx; refine hK _ ?_; clear hK K hw9 w9)
    | (refine wpR_op rfl (fun w9 hw9 K hK => ?_); go_simp; refine rel_call (FlR.call (lnC_c _ _)) (fun v => ?_) (fun v hv => ?_); (simp [FTL, FT, FU, spOne_iff]); obtain ⟨rl, rfl, hrl⟩ := hv; refine hK _ ?_; clear hK K hw9 w9)
    | (refine wpR_op rfl (fun w9 hw9 K hK => ?_); go_simp; refine rel_call (ExR.call (HL.out _ (by rw [HY.out]; simp [fromY, *, fbin, neg_can]) _)) (fun v => ?_) (fun v hv => ?_); (rw [ftl_r]); subst hv; refine hK _ ?_; clear hK K hw9 w9)
    | (refine wpR_op rfl (fun w9 hw9 K hK => ?_); go_simp; refine hK _ ?_; clear hK K hw9 w9))
  refine wpR_nil ?_
  intro w8 hx8 _
  replace hw := hw.trans (bareN hx8 rfl rfl rfl rfl)
  replace hb3 := hb3.ext (bareN hx8 rfl rfl rfl rfl)
  clear hb1 hb2 hx8
  go_wp2_with (first | (refine wpList_own rfl 26 _ _ rfl _ _ rfl rfl _ _ hb3 (by kernel_rfl) rfl (by simp [Value.oneCell']) ?_; go_must (intro u bn en sn; replace hw := en w hw (by omega); have kc := bn.cell; clear sn en hb3)))
  refine bodyPost_ret (v := .tuple #[placeW (signP M) r, .nilIface]) (by simp [results, Tryd.results32, go_sem, kc]) rfl ⟨_, by rw [HLon.out], .nil, hw⟩
end Go.Proofs.YtddjppaccpioiaaDoor

/- Walks: of which place a point of paper is: package flat's, on the two other kinds of paper. -/
namespace Go.Proofs.YtddjppaccpioiaaDoor
open Go.RowKit Go.Fp Go.Rel
set_option maxRecDepth 20000

theorem order_canW (x : Nat) {c : Nat} (hc : isNan c = false) : D.order (can x) c = D.order x c := by
  have := order_can x c
  rwa [can_of_not hc] at this
theorem far_no {x Q : Nat} (h : can x = Q) (hf : farQ Q = false) : (FloatKind.f64.format.order x c32 == some .gt) = false ∧ (FloatKind.f64.format.order x m32 == some .lt) = false := by
  unfold farQ at hf
  rw [← h, order_canW x (by kernel_rfl), order_canW x (by kernel_rfl), Bool.or_eq_false_iff] at hf
  exact hf
theorem far_yes {x Q : Nat} (h : can x = Q) (hf : farQ Q = true) : (FloatKind.f64.format.order x c32 == some .gt) = true ∨ ((FloatKind.f64.format.order x c32 == some .gt) = false ∧ (FloatKind.f64.format.order x m32 == some .lt) = true) := by
  unfold farQ at hf
  rw [← h, order_canW x (by kernel_rfl), order_canW x (by kernel_rfl), Bool.or_eq_true] at hf
  cases hg : (D.order x c32 == some .gt) with
  | true => exact .inl hg
  | false => rcases hf with hf | hf
             · rw [hg] at hf; cases hf
             · exact .inr ⟨hg, hf⟩
set_option maxHeartbeats 8000000 in
theorem from_mer {A : Nat → Addr} (a f : Nat) (mid : Int) (sc x y : Nat) (r : Int) (w : World) (h8 : World8 A w) (hk : papP (okG a f) 0 sc = 0) (hx : btw x m1e8 c1e8 = true) (hy : btw y m1e8 c1e8 = true) (hf : farQ (eastQ a sc (can x)) = false) (hI : LatOk (isoP f) (fromY 0 a f sc x y) r) :
    Calls Tryd.prog 32 #[paperV a f sMer mid sc, flatV x y] w (FromR A 0 (fromLon 0 a sc x y mid) r w) := by
  have HC := Lib.hid (valid_ok (A := A) KindIs.mer a f mid sc hk)
  obtain ⟨Y, hY⟩ : ∃ Y, Y = fromY 0 a f sc x y := ⟨_, rfl⟩
  rw [← hY] at hI
  have HL : Hid (∀ x', can x' = Y → ∀ w, Calls Tryd.prog 66 #[globeV a f, .float .f64 x'] w (ExR (.int .i64 r) w)) := Lib.hid (fun x' h w => lat_c a f x' r w (by rw [h]; exact hI))
  have HY := Lib.hid hY
  have HF := Lib.hid hf
  clear hk hY hI hf
  obtain ⟨o1, o2⟩ := btw_yes hx
  obtain ⟨o3, o4⟩ := btw_yes hy
  clear hx hy
  go_enter Tryd.func32, Tryd.ntmps32
  go_wp2_with (first
    | (go_at_call 73; go_must (refine (HC.out _ (h8.ext (by repeat (first | exact Ext.refl _ | refine Ext.alloc ?_ _)))).mono ?_; rintro e w1 ⟨rfl, hx⟩; obtain ⟨hb1, hb2, hb3, hw⟩ := ext3 hx; have c1 := hb1.cell; have c2 := hb2.cell; clear hx))
    | (go_at_call 42; go_must (refine (norm_c _ _).mono ?_; rintro e w2 ⟨rfl, rfl⟩)))
  clear c1 c2 o1 o2 o3 o4
  refine wp_region_all FT (by kernel_rfl) (by kernel_rfl) ?_
  repeat (first
    | (refine wpR_op rfl (fun w9 hw9 K hK => ?_); have k1 := (hb1.ext (bareN hw9 rfl rfl rfl rfl)).cell; have k2 := (hb2.ext (bareN hw9 rfl rfl rfl rfl)).cell; go_simp; refine hK _ ?_; clear hK K k1 k2 hw9 w9)
    | (refine wpR_op rfl (fun w9 hw9 K hK => ?_); go_simp; refine rel_call (FlR.call (paperA_c a f _ mid sc _)) (fun v => ?_) (fun v hv => ?_); (simp [FT, FU, spPap_iff]); obtain ⟨ra, rfl, hra⟩ := hv; refine hK _ ?_; clear hK K hw9 w9)
    | (refine wpR_op rfl (fun w9 hw9 K hK => ?_); go_simp; refine rel_fl rfl ?_; intro rx hrx; refine hK _ ?_; clear hK K hw9 w9))
  refine wpR_nil ?_
  intro w8 hx8 _
  replace hw := hw.trans (bareN hx8 rfl rfl rfl rfl)
  replace hb3 := hb3.ext (bareN hx8 rfl rfl rfl rfl)
  replace hb2 := hb2.ext (bareN hx8 rfl rfl rfl rfl)
  replace hb1 := hb1.ext (bareN hx8 rfl rfl rfl rfl)
  clear hx8
  have hq : can rx = eastQ a sc (can x) := by rw [hrx, hra]; rfl
  have c1 := hb1.cell
  have c2 := hb2.cell
  obtain ⟨o5, o6⟩ := far_no hq HF.out
  obtain ⟨N, hN⟩ : ∃ N, N = nearP (can rx) := ⟨_, rfl⟩
  have W0 := hN.symm
  have HLon : Hid (fromLon 0 a sc x y mid = signP (IntKind.i64.wrap (normP mid + N))) := by
    show fromLon 0 a sc x y mid = _
    rw [hN, hq]; rfl
  obtain ⟨M, hM⟩ : ∃ M, M = IntKind.i64.wrap (normP mid + N) := ⟨_, rfl⟩
  have W1 := hM.symm
  rw [← hM] at HLon
  clear hrx hq hN hM hra
  go_wp2_with (first
    | (go_at_call 43; go_must (refine (nearest_c _ _).mono ?_; rintro e w2 ⟨rfl, hx⟩; replace hw := hw.trans (bareN hx rfl rfl rfl rfl); replace hb3 := hb3.ext (bareN hx rfl rfl rfl rfl); replace hb2 := hb2.ext (bareN hx rfl rfl rfl rfl); replace hb1 := hb1.ext (bareN hx rfl rfl rfl rfl); clear c1 c2 hx; have c1 := hb1.cell; have c2 := hb2.cell))
    | (go_at_call 41; go_must (refine (signed_c _ _).mono ?_; rintro e w2 ⟨rfl, hx⟩; replace hw := hw.trans (bareN hx rfl rfl rfl rfl); replace hb3 := hb3.ext (bareN hx rfl rfl rfl rfl); replace hb2 := hb2.ext (bareN hx rfl rfl rfl rfl); replace hb1 := hb1.ext (bareN hx rfl rfl rfl rfl); clear c1 c2 hx; have c1 := hb1.cell; have c2 := hb2.cell; have k1 : ∀ o i, (w2.alloc o).cell? ⟨w.heap.size, i, none⟩ = #[Value.float .f64 a, Value.float .f64 f, Value.string _, Value.int .i64 mid, Value.float .f64 sc][i]? := (fun o i => (hb1.ext ((Ext.refl w2).alloc o)).cell i); have k2 : ∀ o i, (w2.alloc o).cell? ⟨w.heap.size + 1, i, none⟩ = #[Value.float .f64 x, Value.float .f64 y][i]? := (fun o i => (hb2.ext ((Ext.refl w2).alloc o)).cell i)))
    | (go_at_call 70; go_must (refine (paperA_c a f _ mid sc _).mono ?_; rintro e w2 ⟨a1, rfl, ha1, hx⟩; replace hw := hw.trans (bareN hx rfl rfl rfl rfl); replace hb3 := hb3.ext (bareN hx rfl rfl rfl rfl); replace hb2 := hb2.ext (bareN hx rfl rfl rfl rfl); replace hb1 := hb1.ext (bareN hx rfl rfl rfl rfl); clear c1 c2 hx; have c1 := hb1.cell; have c2 := hb2.cell))
    | (with_reducible refine upon_fl rfl ?_; intro r0 n hr))
  have hbf : Blk (w2.alloc (.cells #[.int .i64 (signP M), .int .i64 0] 26)) w2.heap.size 26 #[.int .i64 (signP M), .int .i64 0] := Blk.new _ _ _
  have hwf : Ext w (w2.alloc (.cells #[.int .i64 (signP M), .int .i64 0] 26)) := hw.alloc _
  have hsz := hw.size
  have hl3 := hb3.lt
  replace hb1 := hb1.ext ((Ext.refl w2).alloc (.cells #[.int .i64 (signP M), .int .i64 0] 26))
  replace hb2 := hb2.ext ((Ext.refl w2).alloc (.cells #[.int .i64 (signP M), .int .i64 0] 26))
  replace hb3 := hb3.ext ((Ext.refl w2).alloc (.cells #[.int .i64 (signP M), .int .i64 0] 26))
  clear c1 c2 k1 k2 o5 o6 W0 W1
  refine wp_region_head 9 (FTL r) (by kernel_rfl) (by kernel_rfl) ?_
  simp only [List.take_succ_cons, List.take_zero, List.drop_succ_cons, List.drop_zero]
  repeat (first
    | (refine wpR_op rfl (fun w9 hw9 K hK => ?_); have k1 := (hb1.ext (bareN hw9 rfl rfl rfl rfl)).cell; have k2 := (hb2.ext (bareN hw9 rfl rfl rfl rfl)).cell; go_simp; refine hK _ ?_; clear hK K k1 k2 hw9 w9)
    | (refine wpR_op rfl (fun w9 hw9 K hK => ?_); go_simp; refine rel_call (FlR.call (paperA_c a f _ mid sc _)) (fun v => ?_) (fun v hv => ?_); (simp [FTL, FT, FU, spPap_iff]); obtain ⟨ra, rfl, hra⟩ := hv; refine hK _ ?_; clear hK K hw9 w9)
    | (refine wpR_op rfl (fun w9 hw9 K hK => ?_); go_simp; refine rel_fl rfl ?_; intro rx hrx; refine hK _ ?_; clear hK K hw9 w9)
    | (refine wpR_op rfl (fun w9 hw9 K hK => ?_); go_simp; refine rel_call (ExR.call (HL.out _ (by rw [HY.out]; simp [fromY, *, fbin, neg_can]) _)) (fun v => ?_) (fun v hv => ?_); (rw [ftl_r]); subst hv; refine hK _ ?_; clear hK K hw9 w9))
  refine wpR_nil ?_
  intro w8 hx8 _
  replace hw := hwf.trans (bareN hx8 rfl rfl rfl rfl)
  replace hbf := hbf.ext (bareN hx8 rfl rfl rfl rfl)
  replace hb3 := hb3.ext (bareN hx8 rfl rfl rfl rfl)
  clear hb1 hb2 hx8 hwf
  generalize w2.heap.size = nb at *
  have cf := hbf.cell
  have ff := hbf.frozen
  go_wp2_with (first
    | (refine wpList_own rfl 26 _ _ rfl _ _ rfl rfl _ _ (hb3.same (fun n hn => setCell_other' _ _ _ _ _ hn) (Nat.ne_of_lt hl3)) (by kernel_rfl) rfl (by simp [Value.oneCell']) ?_; go_must (intro u bn en sn; replace hw := en w (Ext.setCell hw (by omega) _) (by omega); have kc := bn.cell; clear sn en hb3)))
  refine bodyPost_ret (v := .tuple #[placeW (signP M) r, .nilIface]) (by simp [results, Tryd.results32, go_sem, kc]) rfl ⟨_, by rw [HLon.out], .nil, hw⟩
end Go.Proofs.YtddjppaccpioiaaDoor

/- Walks: of which place a point of paper is: package flat's, on paper of equal areas, and too far east. -/
namespace Go.Proofs.YtddjppaccpioiaaDoor
open Go.RowKit Go.Fp Go.Rel
set_option maxRecDepth 20000

set_option maxHeartbeats 8000000 in
theorem from_equ {A : Nat → Addr} (a f : Nat) (mid : Int) (sc x y : Nat) (r : Int) (w : World) (h8 : World8 A w) (hk : papP (okG a f) 1 sc = 0) (hx : btw x m1e8 c1e8 = true) (hy : btw y m1e8 c1e8 = true) (hf : farQ (eastQ a sc (can x)) = false) (hI : LatOk (upP a f sc) (fromY 1 a f sc x y) r) :
    Calls Tryd.prog 32 #[paperV a f sEqu mid sc, flatV x y] w (FromR A 0 (fromLon 1 a sc x y mid) r w) := by
  have HC := Lib.hid (valid_ok (A := A) KindIs.equ a f mid sc hk)
  obtain ⟨Y, hY⟩ : ∃ Y, Y = fromY 1 a f sc x y := ⟨_, rfl⟩
  rw [← hY] at hI
  have HL : Hid (∀ x', can x' = Y → ∀ w, Calls Tryd.prog 76 #[.func (.func 72) #[paperV a f sEqu mid sc] #[], .float .f64 x'] w (ExR (.int .i64 r) w)) := Lib.hid (fun x' h w => found_up _ _ x' r w (by rw [h]; exact hI) (fun m w' _ => up_c a f sEqu mid sc m w'))
  have HY := Lib.hid hY
  have HF := Lib.hid hf
  clear hk hY hI hf
  obtain ⟨o1, o2⟩ := btw_yes hx
  obtain ⟨o3, o4⟩ := btw_yes hy
  clear hx hy
  go_enter Tryd.func32, Tryd.ntmps32
  go_wp2_with (first
    | (go_at_call 73; go_must (refine (HC.out _ (h8.ext (by repeat (first | exact Ext.refl _ | refine Ext.alloc ?_ _)))).mono ?_; rintro e w1 ⟨rfl, hx⟩; obtain ⟨hb1, hb2, hb3, hw⟩ := ext3 hx; have c1 := hb1.cell; have c2 := hb2.cell; clear hx))
    | (go_at_call 42; go_must (refine (norm_c _ _).mono ?_; rintro e w2 ⟨rfl, rfl⟩)))
  clear c1 c2 o1 o2 o3 o4
  refine wp_region_all FT (by kernel_rfl) (by kernel_rfl) ?_
  repeat (first
    | (refine wpR_op rfl (fun w9 hw9 K hK => ?_); have k1 := (hb1.ext (bareN hw9 rfl rfl rfl rfl)).cell; have k2 := (hb2.ext (bareN hw9 rfl rfl rfl rfl)).cell; go_simp; refine hK _ ?_; clear hK K k1 k2 hw9 w9)
    | (refine wpR_op rfl (fun w9 hw9 K hK => ?_); go_simp; refine rel_call (FlR.call (paperA_c a f _ mid sc _)) (fun v => ?_) (fun v hv => ?_); (simp [FT, FU, spPap_iff]); obtain ⟨ra, rfl, hra⟩ := hv; refine hK _ ?_; clear hK K hw9 w9)
    | (refine wpR_op rfl (fun w9 hw9 K hK => ?_); go_simp; refine rel_fl rfl ?_; intro rx hrx; refine hK _ ?_; clear hK K hw9 w9))
  refine wpR_nil ?_
  intro w8 hx8 _
  replace hw := hw.trans (bareN hx8 rfl rfl rfl rfl)
  replace hb3 := hb3.ext (bareN hx8 rfl rfl rfl rfl)
  replace hb2 := hb2.ext (bareN hx8 rfl rfl rfl rfl)
  replace hb1 := hb1.ext (bareN hx8 rfl rfl rfl rfl)
  clear hx8
  have hq : can rx = eastQ a sc (can x) := by rw [hrx, hra]; rfl
  have c1 := hb1.cell
  have c2 := hb2.cell
  obtain ⟨o5, o6⟩ := far_no hq HF.out
  obtain ⟨N, hN⟩ : ∃ N, N = nearP (can rx) := ⟨_, rfl⟩
  have W0 := hN.symm
  have HLon : Hid (fromLon 1 a sc x y mid = signP (IntKind.i64.wrap (normP mid + N))) := by
    show fromLon 1 a sc x y mid = _
    rw [hN, hq]; rfl
  obtain ⟨M, hM⟩ : ∃ M, M = IntKind.i64.wrap (normP mid + N) := ⟨_, rfl⟩
  have W1 := hM.symm
  rw [← hM] at HLon
  clear hrx hq hN hM hra
  go_wp2_with (first
    | (go_at_call 43; go_must (refine (nearest_c _ _).mono ?_; rintro e w2 ⟨rfl, hx⟩; replace hw := hw.trans (bareN hx rfl rfl rfl rfl); replace hb3 := hb3.ext (bareN hx rfl rfl rfl rfl); replace hb2 := hb2.ext (bareN hx rfl rfl rfl rfl); replace hb1 := hb1.ext (bareN hx rfl rfl rfl rfl); clear c1 c2 hx; have c1 := hb1.cell; have c2 := hb2.cell))
    | (go_at_call 41; go_must (refine (signed_c _ _).mono ?_; rintro e w2 ⟨rfl, hx⟩; replace hw := hw.trans (bareN hx rfl rfl rfl rfl); replace hb3 := hb3.ext (bareN hx rfl rfl rfl rfl); replace hb2 := hb2.ext (bareN hx rfl rfl rfl rfl); replace hb1 := hb1.ext (bareN hx rfl rfl rfl rfl); clear c1 c2 hx; have c1 := hb1.cell; have c2 := hb2.cell; have k1 : ∀ o i, (w2.alloc o).cell? ⟨w.heap.size, i, none⟩ = #[Value.float .f64 a, Value.float .f64 f, Value.string _, Value.int .i64 mid, Value.float .f64 sc][i]? := (fun o i => (hb1.ext ((Ext.refl w2).alloc o)).cell i); have k2 : ∀ o i, (w2.alloc o).cell? ⟨w.heap.size + 1, i, none⟩ = #[Value.float .f64 x, Value.float .f64 y][i]? := (fun o i => (hb2.ext ((Ext.refl w2).alloc o)).cell i)))
    | (go_at_call 70; go_must (refine (paperA_c a f _ mid sc _).mono ?_; rintro e w2 ⟨a1, rfl, ha1, hx⟩; replace hw := hw.trans (bareN hx rfl rfl rfl rfl); replace hb3 := hb3.ext (bareN hx rfl rfl rfl rfl); replace hb2 := hb2.ext (bareN hx rfl rfl rfl rfl); replace hb1 := hb1.ext (bareN hx rfl rfl rfl rfl); clear c1 c2 hx; have c1 := hb1.cell; have c2 := hb2.cell))
    | (with_reducible refine upon_fl rfl ?_; intro r0 n hr))
  have hbf : Blk (w2.alloc (.cells #[.int .i64 (signP M), .int .i64 0] 26)) w2.heap.size 26 #[.int .i64 (signP M), .int .i64 0] := Blk.new _ _ _
  have hwf : Ext w (w2.alloc (.cells #[.int .i64 (signP M), .int .i64 0] 26)) := hw.alloc _
  have hsz := hw.size
  have hl3 := hb3.lt
  replace hb1 := hb1.ext ((Ext.refl w2).alloc (.cells #[.int .i64 (signP M), .int .i64 0] 26))
  replace hb2 := hb2.ext ((Ext.refl w2).alloc (.cells #[.int .i64 (signP M), .int .i64 0] 26))
  replace hb3 := hb3.ext ((Ext.refl w2).alloc (.cells #[.int .i64 (signP M), .int .i64 0] 26))
  clear c1 c2 k1 k2 o5 o6 W0 W1
  refine (HL.out _ (by rw [HY.out]; simp [fromY]) _).mono ?_
  rintro e w8 ⟨rfl, hx8⟩
  replace hw := hwf.trans hx8
  replace hbf := hbf.ext hx8
  replace hb3 := hb3.ext hx8
  clear hb1 hb2 hx8 hwf
  generalize w2.heap.size = nb at *
  have cf := hbf.cell
  have ff := hbf.frozen
  go_wp2_with (first
    | (refine wpList_own rfl 26 _ _ rfl _ _ rfl rfl _ _ (hb3.same (fun n hn => setCell_other' _ _ _ _ _ hn) (Nat.ne_of_lt hl3)) (by kernel_rfl) rfl (by simp [Value.oneCell']) ?_; go_must (intro u bn en sn; replace hw := en w (Ext.setCell hw (by omega) _) (by omega); have kc := bn.cell; clear sn en hb3)))
  refine bodyPost_ret (v := .tuple #[placeW (signP M) r, .nilIface]) (by simp [results, Tryd.results32, go_sem, kc]) rfl ⟨_, by rw [HLon.out], .nil, hw⟩

set_option maxHeartbeats 8000000 in
theorem from_far {A : Nat → Addr} {s : ByteArray} {n : Nat} (h : KindIs s n) (a f : Nat) (mid : Int) (sc x y : Nat) (w : World) (h8 : World8 A w) (hk : papP (okG a f) n sc = 0) (hn : n = 0 ∨ n = 1) (hx : btw x m1e8 c1e8 = true) (hy : btw y m1e8 c1e8 = true) (hf : farQ (eastQ a sc (can x)) = true) :
    Calls Tryd.prog 32 #[paperV a f s mid sc, flatV x y] w (FromR A 4 0 0 w) := by
  have HC := Lib.hid (valid_ok (A := A) h a f mid sc hk)
  have HF := Lib.hid hf
  clear hk hf
  obtain ⟨o1, o2⟩ := btw_yes hx
  obtain ⟨o3, o4⟩ := btw_yes hy
  clear hx hy
  cases h
  case pol => omega
  case not => omega
  all_goals
    clear hn
    go_enter Tryd.func32, Tryd.ntmps32
    go_wp2_with (first
      | (go_at_call 73; go_must (refine (HC.out _ (h8.ext (by repeat (first | exact Ext.refl _ | refine Ext.alloc ?_ _)))).mono ?_; rintro e w1 ⟨rfl, hx⟩; obtain ⟨hb1, hb2, hb3, hw⟩ := ext3 hx; have c1 := hb1.cell; have c2 := hb2.cell; clear hx))
      | (go_at_call 42; go_must (refine (norm_c _ _).mono ?_; rintro e w2 ⟨rfl, rfl⟩)))
    clear c1 c2 o1 o2 o3 o4
    refine wp_region_all FT (by kernel_rfl) (by kernel_rfl) ?_
    repeat (first
      | (refine wpR_op rfl (fun w9 hw9 K hK => ?_); have k1 := (hb1.ext (bareN hw9 rfl rfl rfl rfl)).cell; have k2 := (hb2.ext (bareN hw9 rfl rfl rfl rfl)).cell; go_simp; refine hK _ ?_; clear hK K k1 k2 hw9 w9)
      | (refine wpR_op rfl (fun w9 hw9 K hK => ?_); go_simp; refine rel_call (FlR.call (paperA_c a f _ mid sc _)) (fun v => ?_) (fun v hv => ?_); (simp [FT, FU, spPap_iff]); obtain ⟨ra, rfl, hra⟩ := hv; refine hK _ ?_; clear hK K hw9 w9)
      | (refine wpR_op rfl (fun w9 hw9 K hK => ?_); go_simp; refine rel_fl rfl ?_; intro rx hrx; refine hK _ ?_; clear hK K hw9 w9))
    refine wpR_nil ?_
    intro w8 hx8 _
    replace hw := hw.trans (bareN hx8 rfl rfl rfl rfl)
    replace hb3 := hb3.ext (bareN hx8 rfl rfl rfl rfl)
    clear hx8 hb1 hb2
    have hq : can rx = eastQ a sc (can x) := by rw [hrx, hra]; rfl
    have kg := (h8.ext hw).errs.cell 0 (by decide)
    have HQ := far_yes hq HF.out
    clear hrx hq hra HF
    rcases HQ with o5 | ⟨o5, o6⟩
    all_goals
      go_wp2_with fail
      have hl0 := cell_lt (h8.errs.cell 0 (by decide))
      have hne : ¬ (0 = w.heap.size + 1 + 1) := by omega
      have hne' : ¬ (w.heap.size + 1 + 1 = 0) := by omega
      have c3 := hb3.cell
      have f3 := hb3.frozen
      have hlt := hb3.lt
      clear HC
      go_region
      all_goals go_wp2_with fail
      all_goals exact bodyPost_ret (v := .tuple #[placeW 0 0, errV (A 0)]) (by simp [results, Tryd.results32, go_sem, c3]) rfl ⟨_, rfl, .range, (by repeat (first | exact hw | refine Ext.drew ?_ | refine Ext.drewN ?_ _ | refine Ext.setCell ?_ (by simp; omega) _))⟩
end Go.Proofs.YtddjppaccpioiaaDoor
