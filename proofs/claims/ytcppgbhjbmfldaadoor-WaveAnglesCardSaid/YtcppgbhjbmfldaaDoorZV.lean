/- Walks: sums of complex numbers; a number times one; the reference's plus. -/
import Derived.Test.YtcppgbhjbmfldaaDoorZU
import Derived.Test.YtcppgbhjbmfldaaDoorHN
import Derived.Test.YtcppgbhjbmfldaaDoorHL
namespace Go.Rel
open Go.RowKit Go.Fp
theorem run_carith' {P : Program} (w : World) {op : BinOp} (h : isArith op = true) (x y : Nat) : ∃ r n, (Op.Complex.arith op .f64 x y).run P w = .ok r (w.drewN n) ∧ can r = fbin op (can x) (can y) := by
  obtain ⟨r, n, e, hr⟩ := run_fl (P := P) w h x y 0
  refine ⟨r, n, ?_, hr⟩
  have e2 : (binOp op 0 (.float .f64 x) (.float .f64 y)).run P w = (Op.floatArith op .f64 x y).run P w := by cases op <;> first | (cases h; done) | rfl
  rw [e2] at e
  simp [Op.Complex.arith, e]
def isSum : BinOp → Bool
  | .add => true
  | .sub => true
  | _ => false
theorem run_cx {P : Program} (w : World) {op : BinOp} (h : isSum op = true) (a b c d : Nat) (t : TypeId) :
    ∃ x y n, (binOp op t (.complex .f64 a b) (.complex .f64 c d)).run P w = .ok (.complex .f64 x y) (w.drewN n) ∧ can x = fbin op (can a) (can c) ∧ can y = fbin op (can b) (can d) := by
  have h' : isArith op = true := by cases op <;> first | (cases h; done) | rfl
  obtain ⟨x, n, e1, hx⟩ := run_carith' (P := P) w h' a c
  obtain ⟨y, m, e2, hy⟩ := run_carith' (P := P) (w.drewN n) h' b d
  refine ⟨x, y, n + m, ?_, hx, hy⟩
  cases op <;> first | (cases h; done) | skip
  all_goals
    simp [binOp, Op.complexOp, e1, e2]
theorem rel_cx {P : Program} {F : FuncId → Array Value → Value → Prop} {W : World} {K : Value → Prop} {t : TypeId} {op : BinOp} {p q r s : Nat} (hop : isSum op = true)
    (h : ∀ x y, can x = fbin op (can p) (can r) → can y = fbin op (can q) (can s) → K (.complex .f64 x y)) : relUpon P F W K (((binOp op t (.complex .f64 p q) (.complex .f64 r s)).run P W).andThen fun v w' => .ok (.value v) w') := by
  obtain ⟨x, y, n, e, hx, hy⟩ := run_cx (P := P) W hop p q r s t
  rw [e]
  exact ⟨(Ext.refl _).drewN _, h x y hx hy⟩
end Go.Rel
namespace Go.Proofs.YtcppgbhjbmfldaaDoor
open Go.RowKit Go.Fp Go.Rel
set_option maxRecDepth 20000

theorem times_c (f x y : Nat) (w : World) : Calls Tryd.prog 49 #[.float .f64 f, .complex .f64 x y] w (CxR (fmul (can f) (can x)) (fmul (can f) (can y)) w) := by
  go_enter Tryd.func49, Tryd.ntmps49
  go_wp2_with (first
    | (with_reducible refine upon_fl rfl ?_; intro r n hr))
  go_ret
  exact ⟨_, _, rfl, by simp only [*, fbin], by simp only [*, fbin], by repeat (first | exact Ext.refl _ | refine Ext.drewN ?_ _)⟩
def SpPlus (args : Array Value) (v : Value) : Prop := ∃ x y z : Nat, args = #[.float .f64 x, .float .f64 y, .float .f64 z] ∧ isFl (fadd (can x) (fmul (can y) (can z))) v
def PairR (X Y : Nat) (w : World) (e : Ending) (w' : World) : Prop := ∃ x y, e = .returned (.agg #[.float .f64 x, .float .f64 y]) ∧ can x = X ∧ can y = Y ∧ Ext w w'
end Go.Proofs.YtcppgbhjbmfldaaDoor

/- Walks: which strips are valid. -/
namespace Go.Proofs.YtcppgbhjbmfldaaDoor
open Go.RowKit Go.Fp Go.Rel
set_option maxRecDepth 20000

abbrev stripV (a f : Nat) (mid : Int) (sc : Nat) : Value := .agg #[.float .f64 a, .float .f64 f, .int .i64 mid, .float .f64 sc]
abbrev placeU (lon lat : Int) : Value := .agg #[.int .i64 lon, .int .i64 lat]
abbrev flatU (x y : Nat) : Value := .agg #[.float .f64 x, .float .f64 y]
/-- the error's number of a strip -/
def strP (g : Bool) (sc : Nat) : Int := if g = true then if btw sc 4591870180066957722 4621819117588971520 = true then 0 else 3 else 3
theorem strP_ok {g : Bool} {sc : Nat} (h : strP g sc = 0) : g = true ∧ btw sc 4591870180066957722 4621819117588971520 = true := by
  unfold strP at h
  cases g with
  | false => simp at h
  | true =>
    refine ⟨rfl, ?_⟩
    cases hb : btw sc 4591870180066957722 4621819117588971520 with
    | false => rw [hb] at h; simp at h
    | true => rfl
theorem strP_cases (g : Bool) (sc : Nat) : strP g sc = 0 ∨ strP g sc = 3 := by
  unfold strP
  split
  · split <;> simp
  · simp

set_option maxHeartbeats 4000000 in
theorem stripError_c (a f : Nat) (mid : Int) (sc : Nat) (w : World) :
    Calls Tryd.prog 13 #[stripV a f mid sc] w (ExR (.int .i64 (strP (okG a f) sc)) w) := by
  have HG0 : ∀ w, Calls Tryd.prog 43 #[globeV a f] w (ExR (.int .i64 (if okG a f then 0 else 3)) w) := fun w => globeError_c a f w
  have hB := Lib.hid (between_c sc 4591870180066957722 4621819117588971520)
  unfold strP
  generalize okG a f = g at *
  generalize btw sc 4591870180066957722 4621819117588971520 = b at *
  cases g
  · simp only [Bool.false_eq_true, if_false] at HG0
    have HG := Lib.hid HG0
    clear HG0 hB
    go_enter Tryd.func13, Tryd.ntmps13
    go_wp2_with (first
      | (go_at_call 43; go_must (refine (HG.out _).mono ?_; rintro e w1 ⟨rfl, hx⟩; obtain ⟨hb1, hw⟩ := ext1 hx; have c1 := hb1.cell; clear hx)))
    go_ret
    exact ⟨rfl, hw⟩
  · simp only [if_true] at HG0
    have HG := Lib.hid HG0
    clear HG0
    cases b
    all_goals
      go_enter Tryd.func13, Tryd.ntmps13
      go_wp2_with (first
        | (go_at_call 43; go_must (refine (HG.out _).mono ?_; rintro e w1 ⟨rfl, hx⟩; obtain ⟨hb1, hw⟩ := ext1 hx; have c1 := hb1.cell; clear hx))
        | (go_at_call 44; go_must (refine (hB.out _).mono ?_; rintro e w2 ⟨rfl, hx⟩; replace hw := hw.trans (bareN hx rfl rfl rfl rfl); clear hx)))
      go_ret
      exact ⟨rfl, hw⟩
end Go.Proofs.YtcppgbhjbmfldaaDoor

/- Plain laws: a difference is a sum with the other sign; sums change places. -/
namespace Go.Fp
open Ieee Go.Proofs.YtcppgbhjbmfldaaDoor
end Go.Fp

/- Walks: where a place is on the ball that lies along the meridian: package wave's look, the reference's TurnednessOf. -/
namespace Go.Proofs.YtcppgbhjbmfldaaDoor
open Go.RowKit Go.Fp Go.Rel
set_option maxRecDepth 20000

def SpI (f : Int → Int) (args : Array Value) (v : Value) : Prop := ∃ a : Int, args = #[.int .i64 a] ∧ v = .int .i64 (f a)
theorem spI_iff (f : Int → Int) (a : Int) (v : Value) : SpI f #[.int .i64 a] v ↔ v = .int .i64 (f a) := by
  unfold SpI
  exact ⟨fun ⟨_, h, k⟩ => by simp at h; obtain rfl := h; exact k, fun h => ⟨_, rfl, h⟩⟩
theorem call_same {P : Program} {f : FuncId} {args : Array Value} {v : Value} {W : World} (h : Calls P f args W (fun e w' => e = .returned v ∧ W = w')) : Calls P f args W (fun e w' => ∃ u, e = .returned u ∧ u = v ∧ Ext W w') :=
  h.mono fun _ _ ⟨he, hx⟩ => ⟨_, he, rfl, hx ▸ Ext.refl _⟩
/-- how far a place is from the middle; where it is on the ball that lies along -/
def dS (mid lon : Int) : Int := normP lon - normP mid
theorem dS_wrap (mid lon : Int) : IntKind.i64.wrap (normP lon - normP mid) = dS mid lon := IntWalk.i64_in _ ⟨by have := normP_lo lon; have := normP_hi mid; omega, by have := normP_hi lon; have := normP_lo mid; omega⟩
def tS (f : Nat) (lat : Int) : Nat := hypK (expP (isoP f lat))
def uS (f : Nat) (lat d : Int) : Int := signP (angleP (tS f lat) (can (cosP d))).1
def vS (f : Nat) (lat d : Int) : Nat := unP (fdiv (can (sinP d)) (fsqrt (fadd (fmul (tS f lat) (tS f lat)) (fmul (can (cosP d)) (can (cosP d))))))
/-- the error's number of a place on a strip -/
def lookK (k lat off : Int) : Int := if 0 < k then k else if 89000000000 < lat ∨ lat < -89000000000 ∨ 45000000000 < off ∨ off < -45000000000 then 4 else 0
abbrev wideV (t : Nat) (d u : Int) (v : Nat) : Value := .agg #[.float .f64 t, .int .i64 d, .int .i64 u, .float .f64 v]
end Go.Proofs.YtcppgbhjbmfldaaDoor

/- Walks: where a place is on the ball that lies along the meridian: the reference's TurnednessOf. -/
namespace Go.Proofs.YtcppgbhjbmfldaaDoor
open Go.RowKit Go.Fp Go.Rel
set_option maxRecDepth 20000

end Go.Proofs.YtcppgbhjbmfldaaDoor

/- Walks: where a place is on a strip: package wave's To. -/
namespace Go.Proofs.YtcppgbhjbmfldaaDoor
open Go.RowKit Go.Fp Go.Rel
set_option maxRecDepth 20000

abbrev cRadS : Nat := 4445950764994258515
/-- a place of a series -/
def zRe (T : Nat → List Nat) (c f : Nat) (u : Int) (V R0 : Nat) : Nat → Nat
  | 0 => R0
  | k + 1 => fadd (zRe T c f u V R0 k) (fmul (rowS T c f k) (sinRe (2 * ((k : Int) + 1) * u) (fmul (can (floatOfInt .f64 (2 * ((k : Int) + 1)))) V)))
def zIm (T : Nat → List Nat) (c f : Nat) (u : Int) (V I0 : Nat) : Nat → Nat
  | 0 => I0
  | k + 1 => fadd (zIm T c f u V I0 k) (fmul (rowS T c f k) (sinIm (2 * ((k : Int) + 1) * u) (fmul (can (floatOfInt .f64 (2 * ((k : Int) + 1)))) V)))
def stripX (a f sc : Nat) (u : Int) (V : Nat) : Nat := fmul (fmul (radS a f) (can sc)) (zIm tabA cA4 f u V V 4)
def stripY (a f sc : Nat) (u : Int) (V : Nat) : Nat := fmul (fmul (radS a f) (can sc)) (zRe tabA cA4 f u V (fmul (can (floatOfInt .f64 u)) (can cRadS)) 4)

theorem signP_range (a : Int) : -180000000000 ≤ signP a ∧ signP a ≤ 180000000000 := by
  obtain ⟨n1, n2⟩ := norm_range a
  unfold signP
  split <;> omega
theorem mul_range (k : Nat) (hk : k < 4) (u : Int) (h1 : -180000000000 ≤ u) (h2 : u ≤ 180000000000) : -9000000000000 ≤ 2 * ((k : Int) + 1) * u ∧ 2 * ((k : Int) + 1) * u ≤ 9000000000000 := by
  rcases k with _ | _ | _ | _ | k
  · omega
  · simp; omega
  · simp; omega
  · simp; omega
  · omega
/-- a complex number of told parts -/
def isCx (X Y : Nat) (v : Value) : Prop := ∃ x y, v = .complex .f64 x y ∧ can x = X ∧ can y = Y
theorem CxR.call {P : Program} {f : FuncId} {args : Array Value} {X Y : Nat} {W : World} (h : Calls P f args W (CxR X Y W)) : Calls P f args W (fun e w' => ∃ v, e = .returned v ∧ isCx X Y v ∧ Ext W w') :=
  h.mono fun _ _ ⟨x, y, he, hx, hy, hw⟩ => ⟨_, he, ⟨x, y, rfl, hx, hy⟩, hw⟩
def SpSine (RE IM : Int → Nat → Nat) (args : Array Value) (v : Value) : Prop := ∃ (u : Int) (x : Nat), args = #[.int .i64 u, .float .f64 x] ∧ isCx (RE u (can x)) (IM u (can x)) v
theorem spSine_iff (RE IM : Int → Nat → Nat) (u : Int) (x : Nat) (v : Value) : SpSine RE IM #[.int .i64 u, .float .f64 x] v ↔ isCx (RE u (can x)) (IM u (can x)) v := by
  unfold SpSine
  exact ⟨fun ⟨_, _, h, k⟩ => by simp at h; obtain ⟨rfl, rfl⟩ := h; exact k, fun h => ⟨_, _, rfl, h⟩⟩
def SpTimes (args : Array Value) (v : Value) : Prop := ∃ f x y : Nat, args = #[.float .f64 f, .complex .f64 x y] ∧ isCx (fmul (can f) (can x)) (fmul (can f) (can y)) v
theorem spTimes_iff (f x y : Nat) (v : Value) : SpTimes #[.float .f64 f, .complex .f64 x y] v ↔ isCx (fmul (can f) (can x)) (fmul (can f) (can y)) v := by
  unfold SpTimes
  exact ⟨fun ⟨_, _, _, h, k⟩ => by simp at h; obtain ⟨rfl, rfl, rfl⟩ := h; exact k, fun h => ⟨_, _, _, rfl, h⟩⟩
def FZ (g : FuncId) (args : Array Value) (v : Value) : Prop := (g = 50 ∧ SpSine sinRe sinIm args v) ∨ (g = 49 ∧ SpTimes args v)
theorem row_at {T : Nat → List Nat} {c f y0 y1 y2 y3 : Nat} (h : can y0 = rowS T c f 0 ∧ can y1 = rowS T c f 1 ∧ can y2 = rowS T c f 2 ∧ can y3 = rowS T c f 3) (k : Nat) (hk : k < 4) :
    ∃ y, (#[.float .f64 y0, .float .f64 y1, .float .f64 y2, .float .f64 y3] : Array Value)[k]? = some (.float .f64 y) ∧ can y = rowS T c f k := by
  obtain ⟨h0, h1, h2, h3⟩ := h
  rcases k with _ | _ | _ | _ | k
  · exact ⟨y0, rfl, h0⟩
  · exact ⟨y1, rfl, h1⟩
  · exact ⟨y2, rfl, h2⟩
  · exact ⟨y3, rfl, h3⟩
  · omega

end Go.Proofs.YtcppgbhjbmfldaaDoor

/- Walks: the law's waved, strip. -/
namespace Go.Proofs.YtcppgbhjbmfldaaDoor
open Go.RowKit Go.Fp Go.Rel
set_option maxRecDepth 20000

abbrev wA : Nat := 4617315517961601024
abbrev w1S : Nat := 4607182418800017408
theorem order_canU (x : Nat) {c : Nat} (hc : isNan c = false) : D.order (can x) c = D.order x c := by
  have := order_can x c
  rwa [can_of_not hc] at this
theorem waved_num : strP (okG wA 0) w1S = 0 ∧ lookK 0 45000000000 (signP (dS 0 0)) = 0 ∧
    D.order (stripX wA 0 w1S (uS 0 45000000000 (dS 0 0)) (vS 0 45000000000 (dS 0 0))) 0 = some .eq ∧
    D.order (stripY wA 0 w1S (uS 0 45000000000 (dS 0 0)) (vS 0 45000000000 (dS 0 0))) 4616009474069663580 = some .gt ∧
    D.order (stripY wA 0 w1S (uS 0 45000000000 (dS 0 0)) (vS 0 45000000000 (dS 0 0))) 4616031992067800433 = some .lt := by decide +kernel
end Go.Proofs.YtcppgbhjbmfldaaDoor

/- Walks: a strip turned into the program's; the same point, bit by bit. -/
namespace Go.Proofs.YtcppgbhjbmfldaaDoor
open Go.RowKit Go.Fp Go.Rel
set_option maxRecDepth 20000

theorem ballS_c (a f : Nat) (w : World) : Calls Tryd.prog 8 #[globeV a f] w (ExR (globeV a f) w) := ball_c a f w
set_option maxHeartbeats 4000000 in
theorem strip_c (a f : Nat) (mid : Int) (sc : Nat) (w : World) : Calls Tryd.prog 17 #[stripV a f mid sc] w (ExR (stripV a f mid sc) w) := by
  go_enter Tryd.func17, Tryd.ntmps17
  go_wp2_with fail
  rename_i KK hKK
  obtain ⟨hb1, hb2, hw⟩ := ext2 (Ext.refl ((w.alloc (.cells #[.float .f64 a, .float .f64 f, .int .i64 mid, .float .f64 sc] 46)).alloc (.cells #[.float .f64 0, .float .f64 0, .int .i64 0, .float .f64 0] 56)))
  refine wp_region_head 8 (fun g args v => g = 8 ∧ args = #[globeV a f] ∧ v = globeV a f) (by kernel_rfl) (by kernel_rfl) ?_
  simp only [List.take_succ_cons, List.take_zero, List.drop_succ_cons, List.drop_zero]
  repeat (first
    | (refine wpR_op rfl (fun w9 hw9 K hK => ?_); have k1 := (hb1.ext (bareN hw9 rfl rfl rfl rfl)).cell; go_simp; refine hK _ ?_; clear hK K k1 hw9 w9)
    | (refine wpR_op rfl (fun w9 hw9 K hK => ?_); go_simp; refine rel_call (ExR.call (ballS_c a f _)) (fun v => ?_) (fun v hv => ?_); (simp); subst hv; refine hK _ ?_; clear hK K hw9 w9))
  refine wpR_nil ?_
  intro w8 hx8 _
  replace hw := hw.trans (bareN hx8 rfl rfl rfl rfl)
  replace hb2 := hb2.ext (bareN hx8 rfl rfl rfl rfl)
  clear hx8 hb1
  refine wpList_own rfl 56 _ _ rfl _ _ rfl rfl _ _ hb2 (by kernel_rfl) rfl (by simp [Value.oneCell']) ?_
  intro u bn en sn
  replace hw := en w hw (by omega)
  have kc := bn.cell
  clear sn en hb2
  go_wp2_with fail
  exact bodyPost_ret (v := stripV a f mid sc) (by simp [results, Tryd.results17, go_sem, kc]) rfl ⟨rfl, hw⟩

end Go.Proofs.YtcppgbhjbmfldaaDoor

/- From a strip: what is reckoned; laws on signs. -/
namespace Go.Fp
open Ieee Go.Proofs.YtcppgbhjbmfldaaDoor
end Go.Fp
namespace Go.Proofs.YtcppgbhjbmfldaaDoor
open Go.RowKit Go.Fp Go.Rel
set_option maxRecDepth 20000

abbrev k16 : Nat := 4609884578576439706
abbrev n16 : Nat := 13833256615431215514
/-- the radius on paper; whether a point is near enough -/
def rS (a f sc : Nat) : Nat := fmul (radS a f) (can sc)
def inX1 (R x : Nat) : Bool := fge x (negC R)
def inX2 (R x : Nat) : Bool := fle x R
def inY1 (R y : Nat) : Bool := fge y (negC (fmul k16 R))
def inY2 (R y : Nat) : Bool := fle y (fmul k16 R)
def inS (R x y : Nat) : Bool := (inX1 R x && inX2 R x) && (inY1 R y && inY2 R y)
/-- the series back -/
def mW (k : Nat) (u : Int) : Int := IntKind.i64.wrap (2 * ((k : Int) + 1) * u)
def bRe (f : Nat) (u : Int) (V R0 : Nat) : Nat → Nat
  | 0 => R0
  | k + 1 => fsub (bRe f u V R0 k) (fmul (rowS tabB cB4 f k) (sinRe (mW k u) (fmul (can (floatOfInt .f64 (2 * ((k : Int) + 1)))) V)))
def bIm (f : Nat) (u : Int) (V I0 : Nat) : Nat → Nat
  | 0 => I0
  | k + 1 => fsub (bIm f u V I0 k) (fmul (rowS tabB cB4 f k) (sinIm (mW k u) (fmul (can (floatOfInt .f64 (2 * ((k : Int) + 1)))) V)))
/-- the place that a point is of: its angles, and what its latitude is found by -/
def fZr (a f sc x y : Nat) : Nat := bRe f (nearP (fdiv (can y) (rS a f sc))) (fdiv (can x) (rS a f sc)) (fdiv (can y) (rS a f sc)) 4
def fZi (a f sc x y : Nat) : Nat := bIm f (nearP (fdiv (can y) (rS a f sc))) (fdiv (can x) (rS a f sc)) (fdiv (can x) (rS a f sc)) 4
def fK (a f sc x y : Nat) : Nat := hypK (expP (fZi a f sc x y))
def fW (a f sc x y : Nat) : Int := nearP (fZr a f sc x y)
def fLon (a f sc : Nat) (mid : Int) (x y : Nat) : Int := signP (normP mid + signP (angleP (fK a f sc x y) (can (cosP (fW a f sc x y)))).1)
def fT (a f sc x y : Nat) : Nat := unP (fdiv (can (sinP (fW a f sc x y))) (fsqrt (fadd (fmul (fK a f sc x y) (fK a f sc x y)) (fmul (can (cosP (fW a f sc x y))) (can (cosP (fW a f sc x y)))))))
end Go.Proofs.YtcppgbhjbmfldaaDoor
