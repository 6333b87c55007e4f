/- Walks: sums of complex numbers; a number times one; the reference's plus. -/
import Derived.Test.YtcppgbhjbmfldaaGreatDoorZU
import Derived.Test.YtcppgbhjbmfldaaGreatDoorHN
import Derived.Test.YtcppgbhjbmfldaaGreatDoorHL
namespace Go.Rel
open Go.RowKit Go.Fp
theorem run_carith' {P : Program} (w : World) {op : BinOp} (h : isArith op = true) (x y : Nat) : ∃ r n, (Op.Complex.arith op .f64 x y).run P w = .ok r (w.drewN n) ∧ can r = fbin op (can x) (can y) := by
  obtain ⟨r, n, e, hr⟩ := run_fl (P := P) w h x y 0
  refine ⟨r, n, ?_, hr⟩
  have e2 : (binOp op 0 (.float .f64 x) (.float .f64 y)).run P w = (Op.floatArith op .f64 x y).run P w := by cases op <;> first | (cases h; done) | rfl
  rw [e2] at e
  simp [Op.Complex.arith, e]
def isSum : BinOp → Bool
  | .add => true
  | .sub => true
  | _ => false
theorem run_cx {P : Program} (w : World) {op : BinOp} (h : isSum op = true) (a b c d : Nat) (t : TypeId) :
    ∃ x y n, (binOp op t (.complex .f64 a b) (.complex .f64 c d)).run P w = .ok (.complex .f64 x y) (w.drewN n) ∧ can x = fbin op (can a) (can c) ∧ can y = fbin op (can b) (can d) := by
  have h' : isArith op = true := by cases op <;> first | (cases h; done) | rfl
  obtain ⟨x, n, e1, hx⟩ := run_carith' (P := P) w h' a c
  obtain ⟨y, m, e2, hy⟩ := run_carith' (P := P) (w.drewN n) h' b d
  refine ⟨x, y, n + m, ?_, hx, hy⟩
  cases op <;> first | (cases h; done) | skip
  all_goals
    simp [binOp, Op.complexOp, e1, e2]
theorem upon_cx {P : Program} {o : Oper} {a : Act} {K : Act → World → Prop} {Q : Exit → Act → World → Prop} {W : World} {t : TypeId} {op : BinOp} {p q r s : Nat} (hop : isSum op = true)
    (h : ∀ x y n, can x = fbin op (can p) (can r) → can y = fbin op (can q) (can s) → o.upon P a K Q (.ok (.value (.complex .f64 x y)) (W.drewN n))) :
    o.upon P a K Q (((binOp op t (.complex .f64 p q) (.complex .f64 r s)).run P W).andThen fun v w' => .ok (.value v) w') := by
  obtain ⟨x, y, n, e, hx, hy⟩ := run_cx (P := P) W hop p q r s t
  rw [e]
  exact h x y n hx hy
theorem rel_cx {P : Program} {F : FuncId → Array Value → Value → Prop} {W : World} {K : Value → Prop} {t : TypeId} {op : BinOp} {p q r s : Nat} (hop : isSum op = true)
    (h : ∀ x y, can x = fbin op (can p) (can r) → can y = fbin op (can q) (can s) → K (.complex .f64 x y)) : relUpon P F W K (((binOp op t (.complex .f64 p q) (.complex .f64 r s)).run P W).andThen fun v w' => .ok (.value v) w') := by
  obtain ⟨x, y, n, e, hx, hy⟩ := run_cx (P := P) W hop p q r s t
  rw [e]
  exact ⟨(Ext.refl _).drewN _, h x y hx hy⟩
end Go.Rel
namespace Go.Proofs.YtcppgbhjbmfldaaGreatDoor
open Go.RowKit Go.Fp Go.Rel
set_option maxRecDepth 20000

theorem times_c (f x y : Nat) (w : World) : Calls Tryz.prog 35 #[.float .f64 f, .complex .f64 x y] w (CxR (fmul (can f) (can x)) (fmul (can f) (can y)) w) := by
  go_enter Tryz.func35, Tryz.ntmps35
  go_wp2_with (first
    | (with_reducible refine upon_fl rfl ?_; intro r n hr))
  go_ret
  exact ⟨_, _, rfl, by simp only [*, fbin], by simp only [*, fbin], by repeat (first | exact Ext.refl _ | refine Ext.drewN ?_ _)⟩
def SpPlus (args : Array Value) (v : Value) : Prop := ∃ x y z : Nat, args = #[.float .f64 x, .float .f64 y, .float .f64 z] ∧ isFl (fadd (can x) (fmul (can y) (can z))) v
theorem spPlus_iff (x y z : Nat) (v : Value) : SpPlus #[.float .f64 x, .float .f64 y, .float .f64 z] v ↔ isFl (fadd (can x) (fmul (can y) (can z))) v := by
  unfold SpPlus
  exact ⟨fun ⟨_, _, _, h, k⟩ => by simp at h; obtain ⟨rfl, rfl, rfl⟩ := h; exact k, fun h => ⟨_, _, _, rfl, h⟩⟩
def PairR (X Y : Nat) (w : World) (e : Ending) (w' : World) : Prop := ∃ x y, e = .returned (.agg #[.float .f64 x, .float .f64 y]) ∧ can x = X ∧ can y = Y ∧ Ext w w'
set_option maxHeartbeats 4000000 in
theorem plusP_c (zr zi f wr wi : Nat) (w : World) : Calls Tryz.prog 47 #[.agg #[.float .f64 zr, .float .f64 zi], .float .f64 f, .agg #[.float .f64 wr, .float .f64 wi]] w
    (PairR (fadd (can zr) (fmul (can f) (can wr))) (fadd (can zi) (fmul (can f) (can wi))) w) := by
  obtain ⟨hb1, hb2, hb3, hw⟩ := ext3 (Ext.refl (((w.alloc (.cells #[.float .f64 zr, .float .f64 zi] 98)).alloc (.cells #[.float .f64 wr, .float .f64 wi] 98)).alloc (.cells #[.float .f64 0, .float .f64 0] 98)))
  have tk1 : Hid True := trivial
  go_enter Tryz.func47, Tryz.ntmps47
  go_wp2_with fail
  refine wp_region_head 13 (fun g args v => g = 42 ∧ SpPlus args v) (by kernel_rfl) (by kernel_rfl) ?_
  simp only [List.take_succ_cons, List.take_zero, List.drop_succ_cons, List.drop_zero]
  repeat (first
    | (refine wpR_op rfl (fun w9 hw9 K hK => ?_); have k1 := (hb1.ext (bareN hw9 rfl rfl rfl rfl)).cell; have k2 := (hb2.ext (bareN hw9 rfl rfl rfl rfl)).cell; go_simp; refine hK _ ?_; clear hK K k1 k2 hw9 w9)
    | (refine wpR_op rfl (fun w9 hw9 K hK => ?_); clear tk1; go_simp; refine rel_call (FlR.call (plus_c _ _ _ _)) (fun v => ?_) (fun v hv => ?_); (simp [spPlus_iff]); obtain ⟨r1, rfl, hr1⟩ := hv; refine hK _ ?_; clear hK K hw9 w9)
    | (refine wpR_op rfl (fun w9 hw9 K hK => ?_); go_simp; refine rel_call (FlR.call (plus_c _ _ _ _)) (fun v => ?_) (fun v hv => ?_); (simp [spPlus_iff]); obtain ⟨r2, rfl, hr2⟩ := hv; refine hK _ ?_; clear hK K hw9 w9))
  refine wpR_nil ?_
  intro w8 hx8 _
  replace hw := hw.trans (bareN hx8 rfl rfl rfl rfl)
  replace hb3 := hb3.ext (bareN hx8 rfl rfl rfl rfl)
  clear hb1 hb2 hx8
  go_wp2_with (first | (refine wpList_own rfl 98 _ _ rfl _ _ rfl rfl _ _ hb3 (by kernel_rfl) rfl (by simp [Value.oneCell']) ?_; go_must (intro u bn en sn; replace hw := en w hw (by omega); have kc := bn.cell; clear sn en hb3)))
  exact bodyPost_ret (v := .agg #[.float .f64 r1, .float .f64 r2]) (by simp [results, Tryz.results47, go_sem, kc]) rfl ⟨r1, r2, rfl, hr1, hr2, hw⟩
end Go.Proofs.YtcppgbhjbmfldaaGreatDoor

/- Walks: which strips are valid. -/
namespace Go.Proofs.YtcppgbhjbmfldaaGreatDoor
open Go.RowKit Go.Fp Go.Rel
set_option maxRecDepth 20000

abbrev stripV (a f : Nat) (mid : Int) (sc : Nat) : Value := .agg #[.float .f64 a, .float .f64 f, .int .i64 mid, .float .f64 sc]
abbrev placeU (lon lat : Int) : Value := .agg #[.int .i64 lon, .int .i64 lat]
abbrev flatU (x y : Nat) : Value := .agg #[.float .f64 x, .float .f64 y]
/-- the error's number of a strip -/
def strP (g : Bool) (sc : Nat) : Int := if g = true then if btw sc 4591870180066957722 4621819117588971520 = true then 0 else 3 else 3
theorem strP_ok {g : Bool} {sc : Nat} (h : strP g sc = 0) : g = true ∧ btw sc 4591870180066957722 4621819117588971520 = true := by
  unfold strP at h
  cases g with
  | false => simp at h
  | true =>
    refine ⟨rfl, ?_⟩
    cases hb : btw sc 4591870180066957722 4621819117588971520 with
    | false => rw [hb] at h; simp at h
    | true => rfl
theorem strP_cases (g : Bool) (sc : Nat) : strP g sc = 0 ∨ strP g sc = 3 := by
  unfold strP
  split
  · split <;> simp
  · simp

set_option maxHeartbeats 4000000 in
theorem svalid_c {A : Nat → Addr} (a f : Nat) (mid : Int) (sc : Nat) (w : World) (h8 : World8 A w) :
    Calls Tryz.prog 51 #[stripV a f mid sc] w fun e w' => ∃ v, e = .returned v ∧ ErrOf A (strP (okG a f) sc) v ∧ Ext w w' := by
  have HV0 : ∀ w, World8 A w → Calls Tryz.prog 65 #[globeV a f] w (ExR (if okG a f then .nilIface else errV (A 4)) w) := fun w h => valid_c a f w h
  generalize okG a f = g at *
  cases g
  · simp only [Bool.false_eq_true, if_false] at HV0
    have HV := Lib.hid HV0
    clear HV0
    go_enter Tryz.func51, Tryz.ntmps51
    go_wp2_with (first
      | (go_at_call 65; go_must (refine (HV.out _ (h8.ext ((Ext.refl w).alloc _))).mono ?_; rintro e w1 ⟨rfl, hx⟩; obtain ⟨hb1, hw⟩ := ext1 hx; have c1 := hb1.cell; clear hx)))
    go_ret
    exact ⟨_, rfl, .shape, hw⟩
  · simp only [if_true] at HV0
    have HV := Lib.hid HV0
    clear HV0
    have hB : Hid (strP true sc = if btw sc 4591870180066957722 4621819117588971520 = true then 0 else 3) := Lib.hid rfl
    go_enter Tryz.func51, Tryz.ntmps51
    go_wp2_with (first
      | (go_at_call 65; go_must (refine (HV.out _ (h8.ext ((Ext.refl w).alloc _))).mono ?_; rintro e w1 ⟨rfl, hx⟩; obtain ⟨hb1, hw⟩ := ext1 hx; have c1 := hb1.cell; have kg := (h8.ext hw).errs.cell 4 (by decide); clear hx)))
    all_goals (first | go_ret | (exfalso; simp_all; done))
    all_goals
      refine ⟨_, rfl, ?_, hw⟩
      rw [hB.out]
      have hD : FloatKind.f64.format = D := rfl
      simp only [hD] at *
      first
        | (rw [if_pos (by simp_all [btw, fge, fle])]; exact .nil)
        | (rw [if_neg (by simp_all [btw, fge, fle]; rename_i p q; rcases q with ⟨q1, q2⟩ | q <;> simp_all)]; exact .shape)
        | (rw [if_neg (by simp_all [btw, fge, fle])]; exact .shape)

set_option maxHeartbeats 4000000 in
theorem stripError_c (a f : Nat) (mid : Int) (sc : Nat) (w : World) :
    Calls Tryz.prog 38 #[stripV a f mid sc] w (ExR (.int .i64 (strP (okG a f) sc)) w) := by
  have HG0 : ∀ w, Calls Tryz.prog 67 #[globeV a f] w (ExR (.int .i64 (if okG a f then 0 else 3)) w) := fun w => globeError_c a f w
  have hB := Lib.hid (between_c sc 4591870180066957722 4621819117588971520)
  unfold strP
  generalize okG a f = g at *
  generalize btw sc 4591870180066957722 4621819117588971520 = b at *
  cases g
  · simp only [Bool.false_eq_true, if_false] at HG0
    have HG := Lib.hid HG0
    clear HG0 hB
    go_enter Tryz.func38, Tryz.ntmps38
    go_wp2_with (first
      | (go_at_call 67; go_must (refine (HG.out _).mono ?_; rintro e w1 ⟨rfl, hx⟩; obtain ⟨hb1, hw⟩ := ext1 hx; have c1 := hb1.cell; clear hx)))
    go_ret
    exact ⟨rfl, hw⟩
  · simp only [if_true] at HG0
    have HG := Lib.hid HG0
    clear HG0
    cases b
    all_goals
      go_enter Tryz.func38, Tryz.ntmps38
      go_wp2_with (first
        | (go_at_call 67; go_must (refine (HG.out _).mono ?_; rintro e w1 ⟨rfl, hx⟩; obtain ⟨hb1, hw⟩ := ext1 hx; have c1 := hb1.cell; clear hx))
        | (go_at_call 60; go_must (refine (hB.out _).mono ?_; rintro e w2 ⟨rfl, hx⟩; replace hw := hw.trans (bareN hx rfl rfl rfl rfl); clear hx)))
      go_ret
      exact ⟨rfl, hw⟩
end Go.Proofs.YtcppgbhjbmfldaaGreatDoor

/- Plain laws: a difference is a sum with the other sign; sums change places. -/
namespace Go.Fp
open Ieee Go.Proofs.YtcppgbhjbmfldaaGreatDoor
theorem sum_comm (a b : Datum) : Datum.sum a b = Datum.sum b a := by
  cases a <;> cases b <;> simp only [Datum.sum]
  case infinity.infinity s t => cases s <;> cases t <;> rfl
  case number.number s m i t n j =>
    rw [Int.min_comm j i, Int.add_comm (signed t n _) (signed s m _), Bool.and_comm t s]
theorem add_comm' (x y : Nat) : fadd x y = fadd y x := by
  unfold fadd Format.add
  rw [sum_comm]
theorem read_neg (y : Nat) : D.read (Op.negFloat .f64 y) = (D.read y).opposite := by
  obtain ⟨h1, h2⟩ := neg_parts y
  have hb : ((Op.negFloat .f64 y) / 2 ^ 63 % 2 == 1) = !(y / 2 ^ 63 % 2 == 1) := by
    rw [h2]
    rcases Nat.mod_two_eq_zero_or_one (y / 2 ^ 63) with h | h <;> rw [h] <;> rfl
  unfold Format.read
  simp only [D_sign, D_inf, D_bin, D_least]
  rw [h1, hb]
  split
  · rfl
  · split
    · rfl
    · split <;> rfl
theorem sub_neg (x y : Nat) : fsub x y = fadd x (Op.negFloat .f64 y) := by
  unfold fsub fadd Format.sub Format.add
  rw [read_neg]
theorem fadd_canR (x y : Nat) : fadd x (can y) = fadd x y := by
  rw [← fadd_can x (can y), can_can, fadd_can]
theorem sub_negC (x y : Nat) : fsub x y = fadd x (negC y) := by
  rw [sub_neg, ← fadd_canR]; rfl
end Go.Fp

/- Walks: where a place is on the ball that lies along the meridian: package wave's look, the reference's TurnednessOf. -/
namespace Go.Proofs.YtcppgbhjbmfldaaGreatDoor
open Go.RowKit Go.Fp Go.Rel
set_option maxRecDepth 20000

set_option maxHeartbeats 2000000 in
theorem sinhBack_c (x : Nat) (w : World) : Calls Tryz.prog 44 #[.float .f64 x] w (FlR (unP (can x)) w) := by
  unfold unP
  rw [order_canZ]
  by_cases ho : D.order x 0 = some .lt
  · rw [if_pos ho]
    have o1 : FloatKind.f64.format.order x 0 = some .lt := ho
    clear ho
    go_enter Tryz.func44, Tryz.ntmps44
    go_wp2_with (first
      | (go_at_call 41; go_must (refine (sqrt_c _ _).mono ?_; rintro e w1 ⟨q, rfl, hq, hx⟩; have hw : Ext w w1 := bareN hx rfl rfl rfl rfl; clear hx))
      | (go_at_call 75; go_must (refine (lnOf_c _ _).mono ?_; rintro e w3 ⟨l1, rfl, hl1, hx⟩; replace hw := hw.trans (bareN hx rfl rfl rfl rfl); clear hx))
      | (with_reducible refine upon_fl rfl ?_; intro r n hr))
    go_ret
    refine ⟨_, rfl, ?_, by repeat (first | exact hw | refine Ext.drewN ?_ _)⟩
    rw [← lnP_can] at hl1
    rw [neg_can, hl1, hr]
    simp only [*, fbin]
    rw [sub_negC, add_comm']
  · rw [if_neg ho]
    have o1 : (FloatKind.f64.format.order x 0 == some .lt) = false := by rw [beq_eq_false_iff_ne]; exact ho
    clear ho
    go_enter Tryz.func44, Tryz.ntmps44
    go_wp2_with (first
      | (go_at_call 41; go_must (refine (sqrt_c _ _).mono ?_; rintro e w1 ⟨q, rfl, hq, hx⟩; have hw : Ext w w1 := bareN hx rfl rfl rfl rfl; clear hx))
      | (go_at_call 75; go_must (refine (lnOf_c _ _).mono ?_; rintro e w3 ⟨l1, rfl, hl1, hx⟩; replace hw := hw.trans (bareN hx rfl rfl rfl rfl); clear hx))
      | (with_reducible refine upon_fl rfl ?_; intro r n hr))
    go_ret
    refine ⟨_, rfl, ?_, by repeat (first | exact hw | refine Ext.drewN ?_ _)⟩
    rw [← lnP_can] at hl1
    rw [hl1, hr]
    simp only [*, fbin]
    rw [add_comm']

def SpI (f : Int → Int) (args : Array Value) (v : Value) : Prop := ∃ a : Int, args = #[.int .i64 a] ∧ v = .int .i64 (f a)
theorem spI_iff (f : Int → Int) (a : Int) (v : Value) : SpI f #[.int .i64 a] v ↔ v = .int .i64 (f a) := by
  unfold SpI
  exact ⟨fun ⟨_, h, k⟩ => by simp at h; obtain rfl := h; exact k, fun h => ⟨_, rfl, h⟩⟩
theorem call_same {P : Program} {f : FuncId} {args : Array Value} {v : Value} {W : World} (h : Calls P f args W (fun e w' => e = .returned v ∧ W = w')) : Calls P f args W (fun e w' => ∃ u, e = .returned u ∧ u = v ∧ Ext W w') :=
  h.mono fun _ _ ⟨he, hx⟩ => ⟨_, he, rfl, hx ▸ Ext.refl _⟩
/-- how far a place is from the middle; where it is on the ball that lies along -/
def dS (mid lon : Int) : Int := normP lon - normP mid
theorem dS_wrap (mid lon : Int) : IntKind.i64.wrap (normP lon - normP mid) = dS mid lon := IntWalk.i64_in _ ⟨by have := normP_lo lon; have := normP_hi mid; omega, by have := normP_hi lon; have := normP_lo mid; omega⟩
def tS (f : Nat) (lat : Int) : Nat := hypK (expP (isoP f lat))
def uS (f : Nat) (lat d : Int) : Int := signP (angleP (tS f lat) (can (cosP d))).1
def vS (f : Nat) (lat d : Int) : Nat := unP (fdiv (can (sinP d)) (fsqrt (fadd (fmul (tS f lat) (tS f lat)) (fmul (can (cosP d)) (can (cosP d))))))
/-- the error's number of a place on a strip -/
def lookK (k lat off : Int) : Int := if 0 < k then k else if 89000000000 < lat ∨ lat < -89000000000 ∨ 45000000000 < off ∨ off < -45000000000 then 4 else 0
abbrev wideV (t : Nat) (d u : Int) (v : Nat) : Value := .agg #[.float .f64 t, .int .i64 d, .int .i64 u, .float .f64 v]
theorem svalid_ok {A : Nat → Addr} (a f : Nat) (mid : Int) (sc : Nat) (hk : strP (okG a f) sc = 0) (w : World) (h8 : World8 A w) : Calls Tryz.prog 51 #[stripV a f mid sc] w (ExR .nilIface w) := by
  refine (svalid_c a f mid sc w h8).mono ?_
  rw [hk]
  rintro e w' ⟨v, rfl, hv, hx⟩
  cases hv
  exact ⟨rfl, hx⟩

set_option maxHeartbeats 8000000 in
theorem look_ok {A : Nat → Addr} (a f : Nat) (mid : Int) (sc : Nat) (lon lat : Int) (w : World) (h8 : World8 A w) (hk : strP (okG a f) sc = 0) (hl : lookK 0 lat (signP (dS mid lon)) = 0) :
    Calls Tryz.prog 33 #[stripV a f mid sc, placeU lon lat] w (fun e w' => ∃ t v, e = .returned (.tuple #[wideV t (dS mid lon) (uS f lat (dS mid lon)) v, .nilIface]) ∧ can t = tS f lat ∧ can v = vS f lat (dS mid lon) ∧ Ext w w') := by
  have HC := Lib.hid (fun w h8 => svalid_ok (A := A) a f mid sc hk w h8)
  clear hk
  have W1 := dS_wrap mid lon
  obtain ⟨d, hd⟩ : ∃ d, d = dS mid lon := ⟨_, rfl⟩
  rw [← hd] at W1 hl ⊢
  obtain ⟨off, hoff⟩ : ∃ o, o = signP d := ⟨_, rfl⟩
  have W2 := hoff.symm
  rw [← hoff] at hl
  have hr : ¬ 89000000000 < lat ∧ ¬ lat < -89000000000 ∧ ¬ 45000000000 < off ∧ ¬ off < -45000000000 := by
    unfold lookK at hl
    rw [if_neg (by decide)] at hl
    split at hl
    · cases hl
    · omega
  obtain ⟨r1, r2, r3, r4⟩ := hr
  clear hl hoff hd
  go_enter Tryz.func33, Tryz.ntmps33
  go_wp2_with (first
    | (go_at_call 51; go_must (refine (HC.out _ (h8.ext (by repeat (first | exact Ext.refl _ | refine Ext.alloc ?_ _)))).mono ?_; rintro e w1 ⟨rfl, hx⟩; obtain ⟨hb1, hb2, hb3, hw⟩ := ext3 hx; have c1 := hb1.cell; have c2 := hb2.cell; clear hx)))
  clear c1 c2
  refine wp_region_all (fun g args v => g = 57 ∧ SpI normP args v) (by kernel_rfl) (by kernel_rfl) ?_
  repeat (first
    | (refine wpR_op rfl (fun w9 hw9 K hK => ?_); have k1 := (hb1.ext (bareN hw9 rfl rfl rfl rfl)).cell; have k2 := (hb2.ext (bareN hw9 rfl rfl rfl rfl)).cell; go_simp; refine hK _ ?_; clear hK K k1 k2 hw9 w9)
    | (refine wpR_op rfl (fun w9 hw9 K hK => ?_); go_simp; refine rel_call (call_same (norm_c _ _)) (fun v => ?_) (fun v hv => ?_); (simp [spI_iff]); subst hv; refine hK _ ?_; clear hK K hw9 w9))
  refine wpR_nil ?_
  intro w8 hx8 _
  replace hw := hw.trans (bareN hx8 rfl rfl rfl rfl)
  replace hb3 := hb3.ext (bareN hx8 rfl rfl rfl rfl)
  replace hb2 := hb2.ext (bareN hx8 rfl rfl rfl rfl)
  replace hb1 := hb1.ext (bareN hx8 rfl rfl rfl rfl)
  clear hx8
  have c1 := hb1.cell
  have c2 := hb2.cell
  go_wp2_with (first
    | (go_at_call 31; go_must (refine (signed_c _ _).mono ?_; rintro e w2 ⟨rfl, hx⟩; replace hw := hw.trans (bareN hx rfl rfl rfl rfl); replace hb3 := hb3.ext (bareN hx rfl rfl rfl rfl); replace hb2 := hb2.ext (bareN hx rfl rfl rfl rfl); replace hb1 := hb1.ext (bareN hx rfl rfl rfl rfl); clear c1 c2 hx; have c1 := hb1.cell; have c2 := hb2.cell))
    | (go_at_call 64; go_must (refine (iso_c a f lat _).mono ?_; rintro e w2 ⟨i1, rfl, hi1, hx⟩; replace hw := hw.trans (bareN hx rfl rfl rfl rfl); replace hb3 := hb3.ext (bareN hx rfl rfl rfl rfl); replace hb2 := hb2.ext (bareN hx rfl rfl rfl rfl); replace hb1 := hb1.ext (bareN hx rfl rfl rfl rfl); clear c1 c2 hx; have c1 := hb1.cell; have c2 := hb2.cell))
    | (go_at_call 53; go_must (refine (hyper_c _ _).mono ?_; rintro e w2 ⟨hh, t, rfl, hhh, ht, hx⟩; replace hw := hw.trans (bareN hx rfl rfl rfl rfl); replace hb3 := hb3.ext (bareN hx rfl rfl rfl rfl); replace hb2 := hb2.ext (bareN hx rfl rfl rfl rfl); replace hb1 := hb1.ext (bareN hx rfl rfl rfl rfl); clear c1 c2 hx; have c1 := hb1.cell; have c2 := hb2.cell))
    | (go_at_call 54; go_must (refine (cos_c _ _).mono ?_; rintro e w2 ⟨rfl, hx⟩; replace hw := hw.trans (bareN hx rfl rfl rfl rfl); replace hb3 := hb3.ext (bareN hx rfl rfl rfl rfl); replace hb2 := hb2.ext (bareN hx rfl rfl rfl rfl); replace hb1 := hb1.ext (bareN hx rfl rfl rfl rfl); clear c1 c2 hx; have c1 := hb1.cell; have c2 := hb2.cell))
    | (go_at_call 56; go_must (refine (sin_c _ _).mono ?_; rintro e w2 ⟨rfl, hx⟩; replace hw := hw.trans (bareN hx rfl rfl rfl rfl); replace hb3 := hb3.ext (bareN hx rfl rfl rfl rfl); replace hb2 := hb2.ext (bareN hx rfl rfl rfl rfl); replace hb1 := hb1.ext (bareN hx rfl rfl rfl rfl); clear c1 c2 hx; have c1 := hb1.cell; have c2 := hb2.cell))
    | (go_at_call 41; go_must (refine (sqrt_c _ _).mono ?_; rintro e w2 ⟨q, rfl, hq, hx⟩; replace hw := hw.trans (bareN hx rfl rfl rfl rfl); replace hb3 := hb3.ext (bareN hx rfl rfl rfl rfl); replace hb2 := hb2.ext (bareN hx rfl rfl rfl rfl); replace hb1 := hb1.ext (bareN hx rfl rfl rfl rfl); clear c1 c2 hx; have c1 := hb1.cell; have c2 := hb2.cell))
    | (go_at_call 55; go_must (refine (angle_c _ _ _).mono ?_; rintro e w2 ⟨rfl, hx⟩; replace hw := hw.trans (bareN hx rfl rfl rfl rfl); replace hb3 := hb3.ext (bareN hx rfl rfl rfl rfl); replace hb2 := hb2.ext (bareN hx rfl rfl rfl rfl); replace hb1 := hb1.ext (bareN hx rfl rfl rfl rfl); clear c1 c2 hx; have c1 := hb1.cell; have c2 := hb2.cell))
    | (go_at_call 59; go_must (refine (unsinh_c _ _).mono ?_; rintro e w2 ⟨v, rfl, hv, hx⟩; replace hw := hw.trans (bareN hx rfl rfl rfl rfl); replace hb3 := hb3.ext (bareN hx rfl rfl rfl rfl); replace hb2 := hb2.ext (bareN hx rfl rfl rfl rfl); replace hb1 := hb1.ext (bareN hx rfl rfl rfl rfl); clear c1 c2 hx; have c1 := hb1.cell; have c2 := hb2.cell))
    | (refine wpList_own rfl 78 _ _ rfl _ _ rfl rfl _ _ hb3 (by kernel_rfl) rfl (by simp [Value.oneCell']) ?_; go_must (intro u bn en sn; replace hw := en w hw (by omega); have kc := bn.cell; clear sn en hb3))
    | (with_reducible refine upon_fl rfl ?_; intro r n hr))
  have ht' : can t = tS f lat := by rw [ht, hi1]; rfl
  refine bodyPost_ret (v := .tuple #[wideV t d (uS f lat d) v, .nilIface]) (by simp [results, Tryz.results33, go_sem, kc]; rfl) rfl ⟨t, v, rfl, ht', ?_, hw⟩
  rw [hv]
  simp only [*, fbin, vS, tS]
end Go.Proofs.YtcppgbhjbmfldaaGreatDoor

/- Walks: where a place is on the ball that lies along the meridian: the reference's TurnednessOf. -/
namespace Go.Proofs.YtcppgbhjbmfldaaGreatDoor
open Go.RowKit Go.Fp Go.Rel
set_option maxRecDepth 20000

set_option maxHeartbeats 8000000 in
theorem turned_ok (a f : Nat) (mid : Int) (sc : Nat) (lon lat : Int) (w : World) (hk : strP (okG a f) sc = 0) (hl : lookK 0 lat (signP (dS mid lon)) = 0) :
    Calls Tryz.prog 21 #[stripV a f mid sc, placeU lon lat] w (fun e w' => ∃ t v, e = .returned (.tuple #[wideV t (dS mid lon) (uS f lat (dS mid lon)) v, .int .i64 0]) ∧ can t = tS f lat ∧ can v = vS f lat (dS mid lon) ∧ Ext w w') := by
  have HC := Lib.hid (stripError_c a f mid sc)
  rw [hk] at HC
  clear hk
  have W1 := dS_wrap mid lon
  obtain ⟨d, hd⟩ : ∃ d, d = dS mid lon := ⟨_, rfl⟩
  rw [← hd] at W1 hl ⊢
  obtain ⟨off, hoff⟩ : ∃ o, o = signP d := ⟨_, rfl⟩
  have W2 := hoff.symm
  rw [← hoff] at hl
  have hr : ¬ 89000000000 < lat ∧ ¬ lat < -89000000000 ∧ ¬ 45000000000 < off ∧ ¬ off < -45000000000 := by
    unfold lookK at hl
    rw [if_neg (by decide)] at hl
    split at hl
    · cases hl
    · omega
  obtain ⟨r1, r2, r3, r4⟩ := hr
  clear hl hoff hd
  have tkA : Hid True := trivial
  have tkB : Hid True := trivial
  have tkC : Hid True := trivial
  go_enter Tryz.func21, Tryz.ntmps21
  go_wp2_with (first
    | (go_at_call 38; go_must (refine (HC.out _).mono ?_; rintro e w1 ⟨rfl, hx⟩; obtain ⟨hb1, hb2, hb3, hw⟩ := ext3 hx; have c1 := hb1.cell; have c2 := hb2.cell; clear hx)))
  clear c1 c2
  refine wp_region_all (fun g args v => g = 29 ∧ SpI normP args v) (by kernel_rfl) (by kernel_rfl) ?_
  repeat (first
    | (refine wpR_op rfl (fun w9 hw9 K hK => ?_); have k1 := (hb1.ext (bareN hw9 rfl rfl rfl rfl)).cell; have k2 := (hb2.ext (bareN hw9 rfl rfl rfl rfl)).cell; go_simp; refine hK _ ?_; clear hK K k1 k2 hw9 w9)
    | (refine wpR_op rfl (fun w9 hw9 K hK => ?_); go_simp; refine rel_call (call_same (normOf_c _ _)) (fun v => ?_) (fun v hv => ?_); (simp [spI_iff]); subst hv; refine hK _ ?_; clear hK K hw9 w9))
  refine wpR_nil ?_
  intro w8 hx8 _
  replace hw := hw.trans (bareN hx8 rfl rfl rfl rfl)
  replace hb3 := hb3.ext (bareN hx8 rfl rfl rfl rfl)
  replace hb2 := hb2.ext (bareN hx8 rfl rfl rfl rfl)
  replace hb1 := hb1.ext (bareN hx8 rfl rfl rfl rfl)
  clear hx8
  have c1 := hb1.cell
  have c2 := hb2.cell
  go_wp2_with (first
    | (go_at_call 28; go_must (refine (signedAngle_c _ _).mono ?_; rintro e w2 ⟨rfl, hx⟩; replace hw := hw.trans (bareN hx rfl rfl rfl rfl); replace hb3 := hb3.ext (bareN hx rfl rfl rfl rfl); replace hb2 := hb2.ext (bareN hx rfl rfl rfl rfl); replace hb1 := hb1.ext (bareN hx rfl rfl rfl rfl); clear c1 c2 hx; have c1 := hb1.cell; have c2 := hb2.cell))
    | (go_at_call 40; go_must (refine (isoOf_c a f lat _).mono ?_; rintro e w2 ⟨i1, rfl, hi1, hx⟩; replace hw := hw.trans (bareN hx rfl rfl rfl rfl); replace hb3 := hb3.ext (bareN hx rfl rfl rfl rfl); replace hb2 := hb2.ext (bareN hx rfl rfl rfl rfl); replace hb1 := hb1.ext (bareN hx rfl rfl rfl rfl); clear c1 c2 hx; have c1 := hb1.cell; have c2 := hb2.cell))
    | (go_at_call 39; go_must (refine (expOf_c _ _).mono ?_; rintro e w2 ⟨p, rfl, hp, hx⟩; rw [← expP_can, hi1] at hp; replace hw := hw.trans (bareN hx rfl rfl rfl rfl); replace hb3 := hb3.ext (bareN hx rfl rfl rfl rfl); replace hb2 := hb2.ext (bareN hx rfl rfl rfl rfl); replace hb1 := hb1.ext (bareN hx rfl rfl rfl rfl); clear c1 c2 hx; have c1 := hb1.cell; have c2 := hb2.cell))
    | (go_at_call 30; go_must (refine (sincos_c _ _).mono ?_; rintro e w2 ⟨rfl, rfl⟩))
    | (go_at_call 42; go_must (refine (plus_c _ _ _ _).mono ?_; rintro e w2 ⟨pl, rfl, hpl, hx⟩; replace hw := hw.trans (bareN hx rfl rfl rfl rfl); replace hb3 := hb3.ext (bareN hx rfl rfl rfl rfl); replace hb2 := hb2.ext (bareN hx rfl rfl rfl rfl); replace hb1 := hb1.ext (bareN hx rfl rfl rfl rfl); clear c1 c2 hx; have c1 := hb1.cell; have c2 := hb2.cell))
    | (go_at_call 41; go_must (refine (sqrt_c _ _).mono ?_; rintro e w2 ⟨q, rfl, hq, hx⟩; replace hw := hw.trans (bareN hx rfl rfl rfl rfl); replace hb3 := hb3.ext (bareN hx rfl rfl rfl rfl); replace hb2 := hb2.ext (bareN hx rfl rfl rfl rfl); replace hb1 := hb1.ext (bareN hx rfl rfl rfl rfl); clear c1 c2 hx; have c1 := hb1.cell; have c2 := hb2.cell))
    | (go_at_call 43; go_must (refine (refAngle_c _ _ _).mono ?_; rintro e w2 ⟨rfl, hx⟩; replace hw := hw.trans (bareN hx rfl rfl rfl rfl); replace hb3 := hb3.ext (bareN hx rfl rfl rfl rfl); replace hb2 := hb2.ext (bareN hx rfl rfl rfl rfl); replace hb1 := hb1.ext (bareN hx rfl rfl rfl rfl); clear c1 c2 hx; have c1 := hb1.cell; have c2 := hb2.cell))
    | (go_at_call 44; go_must (refine (sinhBack_c _ _).mono ?_; rintro e w2 ⟨v, rfl, hv, hx⟩; replace hw := hw.trans (bareN hx rfl rfl rfl rfl); replace hb3 := hb3.ext (bareN hx rfl rfl rfl rfl); replace hb2 := hb2.ext (bareN hx rfl rfl rfl rfl); replace hb1 := hb1.ext (bareN hx rfl rfl rfl rfl); clear c1 c2 hx; have c1 := hb1.cell; have c2 := hb2.cell))
    | (refine wpList_own rfl 63 _ _ rfl _ _ rfl rfl _ _ hb3 (by kernel_rfl) rfl (by simp [Value.oneCell']) ?_; go_must (intro u bn en sn; replace hw := en w (by repeat (first | exact hw | refine Ext.drewN ?_ _)) (by omega); have kc := bn.cell; clear sn en hb3))
    | (clear tkA; with_reducible refine upon_fl rfl ?_; intro rA nA hrA)
    | (clear tkB; with_reducible refine upon_fl rfl ?_; intro rB nB hrB)
    | (clear tkC; (with_reducible refine upon_fl rfl ?_); go_must (intro t nT ht; have ht' : can t = tS f lat := (by rw [ht, hrB, hrA, hp]; rfl); clear ht hrA hrB hp))
    | (with_reducible refine upon_fl rfl ?_; intro r n hr))
  refine bodyPost_ret (v := .tuple #[wideV t d (uS f lat d) v, .int .i64 0]) (by simp [results, Tryz.results21, go_sem, kc]; rfl) rfl ⟨t, v, rfl, ht', ?_, hw⟩
  rw [hv]
  simp only [*, fbin, vS]
end Go.Proofs.YtcppgbhjbmfldaaGreatDoor

/- Walks: where a place is on a strip: package wave's To. -/
namespace Go.Proofs.YtcppgbhjbmfldaaGreatDoor
open Go.RowKit Go.Fp Go.Rel
set_option maxRecDepth 20000

abbrev cRadS : Nat := 4445950764994258515
/-- a place of a series -/
def zRe (T : Nat → List Nat) (c f : Nat) (u : Int) (V R0 : Nat) : Nat → Nat
  | 0 => R0
  | k + 1 => fadd (zRe T c f u V R0 k) (fmul (rowS T c f k) (sinRe (2 * ((k : Int) + 1) * u) (fmul (can (floatOfInt .f64 (2 * ((k : Int) + 1)))) V)))
def zIm (T : Nat → List Nat) (c f : Nat) (u : Int) (V I0 : Nat) : Nat → Nat
  | 0 => I0
  | k + 1 => fadd (zIm T c f u V I0 k) (fmul (rowS T c f k) (sinIm (2 * ((k : Int) + 1) * u) (fmul (can (floatOfInt .f64 (2 * ((k : Int) + 1)))) V)))
def stripX (a f sc : Nat) (u : Int) (V : Nat) : Nat := fmul (fmul (radS a f) (can sc)) (zIm tabA cA4 f u V V 4)
def stripY (a f sc : Nat) (u : Int) (V : Nat) : Nat := fmul (fmul (radS a f) (can sc)) (zRe tabA cA4 f u V (fmul (can (floatOfInt .f64 u)) (can cRadS)) 4)

theorem signP_range (a : Int) : -180000000000 ≤ signP a ∧ signP a ≤ 180000000000 := by
  obtain ⟨n1, n2⟩ := norm_range a
  unfold signP
  split <;> omega
theorem mul_range (k : Nat) (hk : k < 4) (u : Int) (h1 : -180000000000 ≤ u) (h2 : u ≤ 180000000000) : -9000000000000 ≤ 2 * ((k : Int) + 1) * u ∧ 2 * ((k : Int) + 1) * u ≤ 9000000000000 := by
  rcases k with _ | _ | _ | _ | k
  · omega
  · simp; omega
  · simp; omega
  · simp; omega
  · omega
/-- a complex number of told parts -/
def isCx (X Y : Nat) (v : Value) : Prop := ∃ x y, v = .complex .f64 x y ∧ can x = X ∧ can y = Y
theorem CxR.call {P : Program} {f : FuncId} {args : Array Value} {X Y : Nat} {W : World} (h : Calls P f args W (CxR X Y W)) : Calls P f args W (fun e w' => ∃ v, e = .returned v ∧ isCx X Y v ∧ Ext W w') :=
  h.mono fun _ _ ⟨x, y, he, hx, hy, hw⟩ => ⟨_, he, ⟨x, y, rfl, hx, hy⟩, hw⟩
def SpSine (RE IM : Int → Nat → Nat) (args : Array Value) (v : Value) : Prop := ∃ (u : Int) (x : Nat), args = #[.int .i64 u, .float .f64 x] ∧ isCx (RE u (can x)) (IM u (can x)) v
theorem spSine_iff (RE IM : Int → Nat → Nat) (u : Int) (x : Nat) (v : Value) : SpSine RE IM #[.int .i64 u, .float .f64 x] v ↔ isCx (RE u (can x)) (IM u (can x)) v := by
  unfold SpSine
  exact ⟨fun ⟨_, _, h, k⟩ => by simp at h; obtain ⟨rfl, rfl⟩ := h; exact k, fun h => ⟨_, _, rfl, h⟩⟩
def SpTimes (args : Array Value) (v : Value) : Prop := ∃ f x y : Nat, args = #[.float .f64 f, .complex .f64 x y] ∧ isCx (fmul (can f) (can x)) (fmul (can f) (can y)) v
theorem spTimes_iff (f x y : Nat) (v : Value) : SpTimes #[.float .f64 f, .complex .f64 x y] v ↔ isCx (fmul (can f) (can x)) (fmul (can f) (can y)) v := by
  unfold SpTimes
  exact ⟨fun ⟨_, _, _, h, k⟩ => by simp at h; obtain ⟨rfl, rfl, rfl⟩ := h; exact k, fun h => ⟨_, _, _, rfl, h⟩⟩
def FZ (g : FuncId) (args : Array Value) (v : Value) : Prop := (g = 36 ∧ SpSine sinRe sinIm args v) ∨ (g = 35 ∧ SpTimes args v)
theorem row_at {T : Nat → List Nat} {c f y0 y1 y2 y3 : Nat} (h : can y0 = rowS T c f 0 ∧ can y1 = rowS T c f 1 ∧ can y2 = rowS T c f 2 ∧ can y3 = rowS T c f 3) (k : Nat) (hk : k < 4) :
    ∃ y, (#[.float .f64 y0, .float .f64 y1, .float .f64 y2, .float .f64 y3] : Array Value)[k]? = some (.float .f64 y) ∧ can y = rowS T c f k := by
  obtain ⟨h0, h1, h2, h3⟩ := h
  rcases k with _ | _ | _ | _ | k
  · exact ⟨y0, rfl, h0⟩
  · exact ⟨y1, rfl, h1⟩
  · exact ⟨y2, rfl, h2⟩
  · exact ⟨y3, rfl, h3⟩
  · omega

set_option maxHeartbeats 8000000 in
theorem sto_ok {A : Nat → Addr} (a f : Nat) (mid : Int) (sc : Nat) (lon lat : Int) (w : World) (h8 : World8 A w) (hk : strP (okG a f) sc = 0) (hl : lookK 0 lat (signP (dS mid lon)) = 0) :
    Calls Tryz.prog 16 #[stripV a f mid sc, placeU lon lat] w (fun e w' => ∃ x y, e = .returned (.tuple #[flatU x y, .nilIface]) ∧ can x = stripX a f sc (uS f lat (dS mid lon)) (vS f lat (dS mid lon)) ∧ can y = stripY a f sc (uS f lat (dS mid lon)) (vS f lat (dS mid lon)) ∧ Ext w w') := by
  have HL := Lib.hid (fun w h8 => look_ok (A := A) a f mid sc lon lat w h8 hk hl)
  have HS := Lib.hid (fun w h8 => series_ok (A := A) a f w h8 (strP_ok hk).1)
  clear hk hl
  generalize dS mid lon = d at *
  have hu : -180000000000 ≤ uS f lat d ∧ uS f lat d ≤ 180000000000 := signP_range _
  generalize uS f lat d = u at *
  obtain ⟨u1, u2⟩ := hu
  generalize vS f lat d = V at *
  generalize tS f lat = T at *
  go_enter Tryz.func16, Tryz.ntmps16
  go_wp2_with (first
    | (go_at_call 33; go_must (refine (HL.out _ (h8.ext (by repeat (first | exact Ext.refl _ | refine Ext.alloc ?_ _)))).mono ?_; rintro e w1 ⟨t, v, rfl, ht, hv, hx⟩; obtain ⟨hb1, hb2, hb3, hw⟩ := ext3 hx; have c1 := hb1.cell; have c2 := hb2.cell; have k1 : ∀ o i, (w1.alloc o).cell? ⟨w.heap.size, i, none⟩ = #[Value.float .f64 a, Value.float .f64 f, Value.int .i64 mid, Value.float .f64 sc][i]? := (fun o i => (hb1.ext ((Ext.refl w1).alloc o)).cell i); clear hx))
    | (go_at_call 34; go_must (refine (HS.out _ (h8.ext (hw.alloc _))).mono ?_; rintro e w2 ⟨r, y0, y1, y2, y3, x0, x1, x2, x3, rfl, hr, hA, _, hx⟩; obtain ⟨hbW, hx'⟩ := ext1 hx; replace hw := hw.trans hx'; replace hb1 := hb1.ext hx'; replace hb3 := hb3.ext hx'; clear hx hx' hb2 c1 c2 k1; have hA' := Lib.hid hA; clear hA; have c1 := hb1.cell; have cW := hbW.cell; have kW : ∀ o o' i, ((w2.alloc o).alloc o').cell? ⟨w1.heap.size, i, none⟩ = #[Value.float .f64 t, Value.int .i64 d, Value.int .i64 u, Value.float .f64 v][i]? := (fun o o' i => (hbW.ext (((Ext.refl w2).alloc o).alloc o')).cell i)))
    | (with_reducible refine upon_fl rfl ?_; intro rz nz hrz))
  have hbA := (Blk.new w2 #[.float .f64 y0, .float .f64 y1, .float .f64 y2, .float .f64 y3] 81).ext ((Ext.refl _).alloc (.cells #[.float .f64 x0, .float .f64 x1, .float .f64 x2, .float .f64 x3] 81))
  have eA : Ext w2 ((w2.alloc (.cells #[.float .f64 y0, .float .f64 y1, .float .f64 y2, .float .f64 y3] 81)).alloc (.cells #[.float .f64 x0, .float .f64 x1, .float .f64 x2, .float .f64 x3] 81)) := ((Ext.refl w2).alloc _).alloc _
  replace hw := hw.trans eA
  replace hb1 := hb1.ext eA
  replace hb3 := hb3.ext eA
  replace hbW := hbW.ext eA
  clear c1 cW kW eA
  obtain ⟨CA, hCA⟩ : ∃ C : Array Value, C = #[.float .f64 y0, .float .f64 y1, .float .f64 y2, .float .f64 y3] := ⟨_, rfl⟩
  have HCA := Lib.hid hCA
  clear hCA
  have RZ := Lib.hid hrz
  clear hrz
  go_loopw [12, 40] (fun zv iv wr => ∃ (k x y : Nat), zv = .complex .f64 x y ∧ iv = .int .i64 k ∧ k ≤ 4 ∧ can x = zRe tabA cA4 f u V (fmul (can (floatOfInt .f64 u)) (can cRadS)) k ∧ can y = zIm tabA cA4 f u V V k ∧ Ext w wr ∧ Blk wr w.heap.size 53 #[.float .f64 a, .float .f64 f, .int .i64 mid, .float .f64 sc] ∧ Blk wr w1.heap.size 78 #[.float .f64 t, .int .i64 d, .int .i64 u, .float .f64 v] ∧ Blk wr w2.heap.size 81 CA ∧ Blk wr (w.heap.size + 1 + 1) 48 #[.float .f64 0, .float .f64 0]) (fun _ iv _ => 4 - (RowKit.intOf iv).toNat)
  case atStart => exact ⟨0, _, _, rfl, rfl, by omega, RZ.out, hv, by repeat (first | exact hw | refine Ext.drewN ?_ _), hb1, hbW, (by rw [HCA.out]; exact hbA), hb3⟩
  case round =>
    clear hw hb1 hb3 hbW hbA
    obtain ⟨k, x, y, rfl, rfl, hk, hx, hy, hw, hb1, hbW, hbA, hb3⟩ := hrel
    have HX := Lib.hid hx
    have HY := Lib.hid hy
    clear hx hy
    have tkX : Hid True := trivial
    rcases Nat.lt_or_ge k 4 with hlt | hge
    · obtain ⟨m1, m2⟩ := mul_range k hlt u u1 u2
      obtain ⟨J, hJ⟩ : ∃ J : Int, J = (k : Int) + 1 := ⟨_, rfl⟩
      obtain ⟨J2, hJ2⟩ : ∃ J2 : Int, J2 = 2 * J := ⟨_, rfl⟩
      obtain ⟨M, hM⟩ : ∃ M : Int, M = J2 * u := ⟨_, rfl⟩
      have WA : IntKind.i64.wrap ((k : Int) + 1) = J := by rw [hJ]; exact IntWalk.i64_in _ ⟨by omega, by omega⟩
      have WB : IntKind.i64.wrap (2 * J) = J2 := by rw [hJ2]; exact IntWalk.i64_in _ ⟨by omega, by omega⟩
      have hM2 : M = 2 * ((k : Int) + 1) * u := by rw [hM, hJ2, hJ]
      have WC : IntKind.i64.wrap (J2 * u) = M := by rw [← hM]; exact IntWalk.i64_in _ ⟨by rw [hM2]; omega, by rw [hM2]; omega⟩
      have K1 : (k : Int) < 4 := by omega
      obtain ⟨yk, EY, hyk⟩ := row_at hA'.out k hlt
      rw [← HCA.out] at EY
      have HM := Lib.hid hM2
      have HJ0 := Lib.hid hJ
      have HJ : Hid (J2 = 2 * ((k : Int) + 1)) := Lib.hid (by rw [hJ2, hJ])
      clear hM hM2 hJ hJ2 m1 m2 RZ tkX
      go_wp2_with fail
      refine wp_region_all FZ (by kernel_rfl) (by kernel_rfl) ?_
      repeat (first
        | (refine wpR_op rfl (fun w9 hw9 K hK => ?_); have k2 := (hbW.ext (bareN hw9 rfl rfl rfl rfl)).cell; have k3 := (hbA.ext (bareN hw9 rfl rfl rfl rfl)).cell; go_simp; refine hK _ ?_; clear hK K k2 k3 hw9 w9)
        | (refine wpR_op rfl (fun w9 hw9 K hK => ?_); go_simp; refine rel_fl rfl ?_; intro fv hfv; refine hK _ ?_; clear hK K hw9 w9)
        | (refine wpR_op rfl (fun w9 hw9 K hK => ?_); go_simp; refine rel_call (CxR.call (sine_c _ _ _)) (fun v => ?_) (fun v hv => ?_); (simp [FZ, spSine_iff]); obtain ⟨sx, sy, rfl, hsx, hsy⟩ := hv; refine hK _ ?_; clear hK K hw9 w9)
        | (refine wpR_op rfl (fun w9 hw9 K hK => ?_); go_simp; refine rel_call (CxR.call (times_c _ _ _ _)) (fun v => ?_) (fun v hv => ?_); (simp [FZ, spTimes_iff]); obtain ⟨tx, ty, rfl, htx, hty⟩ := hv; refine hK _ ?_; clear hK K hw9 w9)
        | (refine wpR_op rfl (fun w9 hw9 K hK => ?_); go_simp; refine rel_cx rfl ?_; intro zx zy hzx hzy; refine hK _ ?_; clear hK K hw9 w9))
      refine wpR_nil ?_
      intro w8 hx8 _
      replace hw := hw.trans (bareN hx8 rfl rfl rfl rfl)
      replace hb3 := hb3.ext (bareN hx8 rfl rfl rfl rfl)
      replace hbW := hbW.ext (bareN hx8 rfl rfl rfl rfl)
      replace hbA := hbA.ext (bareN hx8 rfl rfl rfl rfl)
      replace hb1 := hb1.ext (bareN hx8 rfl rfl rfl rfl)
      clear hx8
      go_wp2_with fail
      go_roundw
      case rel =>
        refine ⟨k + 1, zx, zy, rfl, by rw [HJ0.out]; simp, by omega, ?_, ?_, hw, hb1, hbW, hbA, hb3⟩
        · rw [hzx, HX.out, htx, hsx, hfv, hyk, HM.out, HJ.out, hv]; rfl
        · rw [hzy, HY.out, hty, hsy, hfv, hyk, HM.out, HJ.out, hv]; rfl
      case measure =>
        have hj := HJ0.out
        simp [RowKit.intOf]; omega
    · have h4 : k = 4 := by omega
      subst h4
      have c1 := hb1.cell
      go_wp2_with (first
        | (refine wpList_own rfl 48 _ _ rfl _ _ rfl rfl _ _ hb3 (by kernel_rfl) rfl (by simp [Value.oneCell']) ?_; go_must (intro wz bn en sn; replace hw := en w (by repeat (first | exact hw | refine Ext.drewN ?_ _)) (by omega); have kc := bn.cell; clear sn en hb3))
        | (clear RZ; with_reducible refine upon_fl rfl ?_; intro R nR hR)
        | (clear tkX; with_reducible refine upon_fl rfl ?_; intro fx nx hfx)
        | (with_reducible refine upon_fl rfl ?_; intro fy ny hfy))
      refine bodyPost_ret (v := .tuple #[flatU fx fy, .nilIface]) (by simp [results, Tryz.results16, go_sem, kc]) rfl ⟨fx, fy, rfl, ?_, ?_, hw⟩
      · rw [hfx, hR, hr, HY.out]; rfl
      · rw [hfy, hR, hr, HX.out]; rfl
end Go.Proofs.YtcppgbhjbmfldaaGreatDoor

/- Walks: the law's waved, strip. -/
namespace Go.Proofs.YtcppgbhjbmfldaaGreatDoor
open Go.RowKit Go.Fp Go.Rel
set_option maxRecDepth 20000

abbrev wA : Nat := 4617315517961601024
abbrev w1S : Nat := 4607182418800017408
theorem order_canU (x : Nat) {c : Nat} (hc : isNan c = false) : D.order (can x) c = D.order x c := by
  have := order_can x c
  rwa [can_of_not hc] at this
theorem waved_num : strP (okG wA 0) w1S = 0 ∧ lookK 0 45000000000 (signP (dS 0 0)) = 0 ∧
    D.order (stripX wA 0 w1S (uS 0 45000000000 (dS 0 0)) (vS 0 45000000000 (dS 0 0))) 0 = some .eq ∧
    D.order (stripY wA 0 w1S (uS 0 45000000000 (dS 0 0)) (vS 0 45000000000 (dS 0 0))) 4616009474069663580 = some .gt ∧
    D.order (stripY wA 0 w1S (uS 0 45000000000 (dS 0 0)) (vS 0 45000000000 (dS 0 0))) 4616031992067800433 = some .lt := by decide +kernel
end Go.Proofs.YtcppgbhjbmfldaaGreatDoor

/- Walks: a strip turned into the program's; the same point, bit by bit. -/
namespace Go.Proofs.YtcppgbhjbmfldaaGreatDoor
open Go.RowKit Go.Fp Go.Rel
set_option maxRecDepth 20000

end Go.Proofs.YtcppgbhjbmfldaaGreatDoor

/- From a strip: what is reckoned; laws on signs. -/
namespace Go.Fp
open Ieee Go.Proofs.YtcppgbhjbmfldaaGreatDoor
theorem word_val (s : Bool) (r : Nat) : D.word s r = (if s then 2 ^ 63 else 0) + r := by
  unfold Format.word
  rw [D_sign]
  cases s <;> simp
theorem neg_lt {x : Nat} (h : x < 2 ^ 64) : Op.negFloat .f64 x < 2 ^ 64 := by
  have e : Op.negFloat .f64 x = x ^^^ 2 ^ 63 := rfl
  rw [e]
  exact Nat.xor_lt_two_pow h (by decide)
theorem neg_word (u : Bool) (R : Nat) (h : R < 2 ^ 63) : Op.negFloat .f64 (D.word u R) = D.word (!u) R := by
  rw [word_val, word_val]
  cases u
  · have h1 := neg_parts ((if false = true then 2 ^ 63 else 0) + R)
    have h2 := neg_lt (x := (if false = true then 2 ^ 63 else 0) + R) (by simp; omega)
    simp only [Bool.false_eq_true, if_false, Nat.zero_add, Bool.not_false, if_true] at *
    obtain ⟨h3, h4⟩ := h1
    omega
  · have h1 := neg_parts ((if true = true then 2 ^ 63 else 0) + R)
    have h2 := neg_lt (x := (if true = true then 2 ^ 63 else 0) + R) (by simp; omega)
    simp only [if_true, Bool.not_true, Bool.false_eq_true, if_false, Nat.zero_add] at *
    obtain ⟨h3, h4⟩ := h1
    omega
theorem near_word (N : Nat) (base : Int) : ∃ R, R ≤ D.infRung ∧ (∀ u, D.nearest u N base = D.word u R) := by
  by_cases h : N = 0
  · exact ⟨0, Nat.zero_le _, fun u => by unfold Format.nearest; rw [if_pos h]⟩
  · generalize hl : max (base + (N.log2 : Int) - (D.fractionBits : Int)) D.leastPlace = last
    refine ⟨min ((last - D.leastPlace).toNat * D.binade + Toward.even.cut false (N <<< (base - last).toNat) (last - base).toNat) D.infRung, Nat.min_le_right _ _, fun u => ?_⟩
    unfold Format.nearest
    rw [if_neg h]
    simp only [hl]
    rw [cut_even, cut_even]
theorem rung63 {R : Nat} (h : R ≤ D.infRung) : R < 2 ^ 63 := by rw [D_inf] at h; omega
theorem fmul_canL (x y : Nat) : fmul (can x) y = fmul x y := by
  rw [← fmul_can (can x) y, can_can, fmul_can]
theorem negC_QN : negC QN = QN := by
  unfold negC
  exact can_of_nan (by rw [neg_nan]; exact isNan_QN)
theorem mul_negC (b s : Nat) : fmul (negC b) s = negC (fmul b s) := by
  unfold negC
  rw [fmul_canL]
  have e1 : fmul (Op.negFloat .f64 b) s = ((((D.read b).opposite).product (D.read s)).map D.write).getD QN := by
    unfold fmul opt Format.mul
    rw [read_neg]
  have e2 : fmul b s = (((D.read b).product (D.read s)).map D.write).getD QN := by unfold fmul opt; rfl
  have hn : ∀ r, isNan r = false → can (Op.negFloat .f64 r) = Op.negFloat .f64 r := fun r h => can_of_not (by rw [neg_nan]; exact h)
  have hq : QN = can (Op.negFloat .f64 QN) := negC_QN.symm
  have hw : ∀ (u : Bool) (R : Nat), R ≤ D.infRung → D.word (!u) R = can (Op.negFloat .f64 (D.word u R)) := fun u R h => by
    rw [hn _ (isNan_word u h), neg_word u R (rung63 h)]
  rw [e1, e2]
  cases hb : D.read b with
  | nan a c => exact hq
  | infinity u =>
    cases hs : D.read s with
    | nan a c => exact hq
    | infinity t =>
      show D.word ((!u) ^^ t) D.infRung = can (Op.negFloat .f64 (D.word (u ^^ t) D.infRung))
      rw [← hw _ _ (Nat.le_refl _)]
      cases u <;> cases t <;> rfl
    | number t n j =>
      by_cases h0 : n = 0
      · subst h0; exact hq
      · have e3 : Datum.product ((Datum.infinity u).opposite) (.number t n j) = some (.infinity ((!u) ^^ t)) := by show (if n = 0 then none else _) = _; rw [if_neg h0]
        have e4 : Datum.product (Datum.infinity u) (.number t n j) = some (.infinity (u ^^ t)) := by show (if n = 0 then none else _) = _; rw [if_neg h0]
        rw [e3, e4]
        show D.word ((!u) ^^ t) D.infRung = can (Op.negFloat .f64 (D.word (u ^^ t) D.infRung))
        rw [← hw _ _ (Nat.le_refl _)]
        cases u <;> cases t <;> rfl
  | number u m i =>
    cases hs : D.read s with
    | nan a c => exact hq
    | infinity t =>
      by_cases h0 : m = 0
      · subst h0; exact hq
      · have e3 : Datum.product ((Datum.number u m i).opposite) (.infinity t) = some (.infinity (t ^^ (!u))) := by show (if m = 0 then none else _) = _; rw [if_neg h0]
        have e4 : Datum.product (Datum.number u m i) (.infinity t) = some (.infinity (t ^^ u)) := by show (if m = 0 then none else _) = _; rw [if_neg h0]
        rw [e3, e4]
        show D.word (t ^^ (!u)) D.infRung = can (Op.negFloat .f64 (D.word (t ^^ u) D.infRung))
        rw [← hw _ _ (Nat.le_refl _)]
        cases u <;> cases t <;> rfl
    | number t n j =>
      show D.nearest ((!u) ^^ t) (m * n) (i + j) = can (Op.negFloat .f64 (D.nearest (u ^^ t) (m * n) (i + j)))
      obtain ⟨R, hR, hN⟩ := near_word (m * n) (i + j)
      rw [hN, hN, ← hw _ _ hR]
      cases u <;> cases t <;> rfl
theorem order_canR (x y : Nat) : D.order x (can y) = D.order x y := by
  rw [← order_can x (can y), can_can, order_can]
end Go.Fp
namespace Go.Proofs.YtcppgbhjbmfldaaGreatDoor
open Go.RowKit Go.Fp Go.Rel
set_option maxRecDepth 20000

abbrev k16 : Nat := 4609884578576439706
abbrev n16 : Nat := 13833256615431215514
theorem neg_k16 : negC k16 = n16 := by decide +kernel
/-- the radius on paper; whether a point is near enough -/
def rS (a f sc : Nat) : Nat := fmul (radS a f) (can sc)
def inX1 (R x : Nat) : Bool := fge x (negC R)
def inX2 (R x : Nat) : Bool := fle x R
def inY1 (R y : Nat) : Bool := fge y (negC (fmul k16 R))
def inY2 (R y : Nat) : Bool := fle y (fmul k16 R)
def inS (R x y : Nat) : Bool := (inX1 R x && inX2 R x) && (inY1 R y && inY2 R y)
theorem ordX1 {R r : Nat} (x : Nat) (h : can r = R) : inX1 R x = (FloatKind.f64.format.order x (Op.negFloat .f64 r) == some .gt || FloatKind.f64.format.order x (Op.negFloat .f64 r) == some .eq) := by
  have e : D.order x (negC R) = D.order x (Op.negFloat .f64 r) := by rw [← h, ← neg_can, order_canR]
  show (D.order x (negC R) == some .gt || D.order x (negC R) == some .eq) = (D.order x _ == some .gt || D.order x _ == some .eq)
  rw [e]
theorem ordX2 {R r : Nat} (x : Nat) (h : can r = R) : inX2 R x = (FloatKind.f64.format.order x r == some .lt || FloatKind.f64.format.order x r == some .eq) := by
  have e : D.order x R = D.order x r := by rw [← h, order_canR]
  show (D.order x R == some .lt || D.order x R == some .eq) = (D.order x _ == some .lt || D.order x _ == some .eq)
  rw [e]
theorem ordY1 {R r q : Nat} (y : Nat) (h : can r = R) (hq : can q = fbin BinOp.mul (can n16) (can r)) : inY1 R y = (FloatKind.f64.format.order y q == some .gt || FloatKind.f64.format.order y q == some .eq) := by
  have e : D.order y (negC (fmul k16 R)) = D.order y q := by
    rw [← order_canR y q, hq, h, ← neg_k16]
    show _ = D.order y (fmul (can (negC k16)) R)
    rw [fmul_canL, mul_negC]
  show (D.order y (negC (fmul k16 R)) == some .gt || D.order y (negC (fmul k16 R)) == some .eq) = (D.order y _ == some .gt || D.order y _ == some .eq)
  rw [e]
theorem ordY2 {R r q : Nat} (y : Nat) (h : can r = R) (hq : can q = fbin BinOp.mul (can k16) (can r)) : inY2 R y = (FloatKind.f64.format.order y q == some .lt || FloatKind.f64.format.order y q == some .eq) := by
  have e : D.order y (fmul k16 R) = D.order y q := by
    rw [← order_canR y q, hq, h]
    show _ = D.order y (fmul (can k16) R)
    rw [fmul_canL]
  show (D.order y (fmul k16 R) == some .lt || D.order y (fmul k16 R) == some .eq) = (D.order y _ == some .lt || D.order y _ == some .eq)
  rw [e]
theorem btwX {R r : Nat} (x : Nat) (h : can r = R) : btw x (Op.negFloat .f64 r) r = (inX1 R x && inX2 R x) := by
  rw [ordX1 x h, ordX2 x h]; rfl
theorem btwY {R r q1 q2 : Nat} (y : Nat) (h : can r = R) (h1 : can q1 = fbin BinOp.mul (can k16) (can r)) (h2 : can q2 = fbin BinOp.mul (can k16) (can r)) : btw y (Op.negFloat .f64 q1) q2 = (inY1 R y && inY2 R y) := by
  have e1 : fge y (Op.negFloat .f64 q1) = inY1 R y := by
    unfold fge inY1
    have e : D.order y (Op.negFloat .f64 q1) = D.order y (negC (fmul k16 R)) := by
      rw [← order_canR y (Op.negFloat .f64 q1), neg_can, h1, h]
      show D.order y (negC (fmul (can k16) R)) = _
      rw [fmul_canL]
    rw [e]; rfl
  rw [ordY2 y h h2]
  unfold btw
  rw [e1]; rfl

/-- the series back -/
def mW (k : Nat) (u : Int) : Int := IntKind.i64.wrap (2 * ((k : Int) + 1) * u)
def bRe (f : Nat) (u : Int) (V R0 : Nat) : Nat → Nat
  | 0 => R0
  | k + 1 => fsub (bRe f u V R0 k) (fmul (rowS tabB cB4 f k) (sinRe (mW k u) (fmul (can (floatOfInt .f64 (2 * ((k : Int) + 1)))) V)))
def bIm (f : Nat) (u : Int) (V I0 : Nat) : Nat → Nat
  | 0 => I0
  | k + 1 => fsub (bIm f u V I0 k) (fmul (rowS tabB cB4 f k) (sinIm (mW k u) (fmul (can (floatOfInt .f64 (2 * ((k : Int) + 1)))) V)))
theorem plus_neg (z b s : Nat) : fadd z (fmul (negC b) s) = fsub z (fmul b s) := by
  rw [mul_negC, ← sub_negC]
/-- the place that a point is of: its angles, and what its latitude is found by -/
def fZr (a f sc x y : Nat) : Nat := bRe f (nearP (fdiv (can y) (rS a f sc))) (fdiv (can x) (rS a f sc)) (fdiv (can y) (rS a f sc)) 4
def fZi (a f sc x y : Nat) : Nat := bIm f (nearP (fdiv (can y) (rS a f sc))) (fdiv (can x) (rS a f sc)) (fdiv (can x) (rS a f sc)) 4
def fK (a f sc x y : Nat) : Nat := hypK (expP (fZi a f sc x y))
def fW (a f sc x y : Nat) : Int := nearP (fZr a f sc x y)
def fLon (a f sc : Nat) (mid : Int) (x y : Nat) : Int := signP (normP mid + signP (angleP (fK a f sc x y) (can (cosP (fW a f sc x y)))).1)
def fT (a f sc x y : Nat) : Nat := unP (fdiv (can (sinP (fW a f sc x y))) (fsqrt (fadd (fmul (fK a f sc x y) (fK a f sc x y)) (fmul (can (cosP (fW a f sc x y))) (can (cosP (fW a f sc x y)))))))
end Go.Proofs.YtcppgbhjbmfldaaGreatDoor
