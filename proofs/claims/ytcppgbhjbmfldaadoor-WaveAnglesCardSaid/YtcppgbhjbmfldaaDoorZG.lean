/- Walks: the isometric latitude; the hyperbolic cosine and sine. -/
import Derived.Test.YtcppgbhjbmfldaaDoorZF
namespace Go.Proofs.YtcppgbhjbmfldaaDoor
open Go.RowKit Go.Fp Go.Rel
set_option maxRecDepth 20000

/-- half the logarithm of what a sine makes -/
def lnR (s : Nat) : Nat := can (lnP (fdiv (fadd (can 4607182418800017408) s) (fsub (can 4607182418800017408) s)))
def isoP (f : Nat) (lat : Int) : Nat :=
  fdiv (fsub (lnR (can (sinP lat))) (fmul (fsqrt (eccP f)) (lnR (fmul (fsqrt (eccP f)) (can (sinP lat)))))) (can 4611686018427387904)

set_option maxHeartbeats 4000000 in
theorem iso_c (a f : Nat) (lat : Int) (w : World) : Calls Tryd.prog 63 #[globeV a f, .int .i64 lat] w (FlR (isoP f lat) w) := by
  have hE0 : ∀ x y, can x = can y → can (lnP x) = can (lnP y) := fun x y h => by rw [← lnP_can x, h, lnP_can]
  have HE := Lib.hid hE0
  clear hE0
  have tk : Hid True := trivial
  go_enter Tryd.func63, Tryd.ntmps63
  go_wp2_with fail
  have hb1 := Blk.new w #[.float .f64 a, .float .f64 f] 35
  have hw1 : Ext w (w.alloc (.cells #[.float .f64 a, .float .f64 f] 35)) := (Ext.refl w).alloc _
  refine wp_region_all (fun g args v => (g = 33 ∧ SpIntN (fun a => .float .f64 (sinP a)) args v) ∨ (g = 59 ∧ SpGl (fun _ f => eccP f) args v) ∨ (g = 35 ∧ SpOne fsqrt args v)) (by kernel_rfl) (by kernel_rfl) ?_
  repeat (first
    | (refine wpR_op rfl (fun w1 hw K hK => ?_); have k1 := (hb1.ext (bareN hw rfl rfl rfl rfl)).cell; go_simp; refine hK _ ?_; clear hK K k1 hw w1)
    | (refine wpR_op rfl (fun w1 hw K hK => ?_); go_simp; refine rel_call (ExR.call (sin_c _ _)) (fun v => ?_) (fun v hv => ?_); (simp [spIntN_iff]); subst hv; refine hK _ ?_; clear hK K hw w1)
    | (refine wpR_op rfl (fun w1 hw K hK => ?_); go_simp; refine rel_call (FlR.call (ecc_c a f _)) (fun v => ?_) (fun v hv => ?_); (simp [spGl_iff']); obtain ⟨rt, rfl, hrt⟩ := hv; refine hK _ ?_; clear hK K hw w1)
    | (refine wpR_op rfl (fun w1 hw K hK => ?_); go_simp; refine rel_call (FlR.call (sqrt_c _ _)) (fun v => ?_) (fun v hv => ?_); (simp [spOne_iff]); obtain ⟨rq, rfl, hrq⟩ := hv; refine hK _ ?_; clear hK K hw w1))
  refine wpR_nil ?_
  intro w2 hx2 _
  have hw := hw1.trans (bareN hx2 rfl rfl rfl rfl)
  clear hx2 hb1 hw1
  go_wp2_with (first
    | (go_at_call 70; clear tk; go_must (refine (ln_c _ _).mono ?_; rintro e w3 ⟨l1, rfl, hl1, hx⟩; replace hw := hw.trans (bareN hx rfl rfl rfl rfl); clear hx))
    | (go_at_call 70; go_must (refine (ln_c _ _).mono ?_; rintro e w3 ⟨l2, rfl, hl2, hx⟩; replace hw := hw.trans (bareN hx rfl rfl rfl rfl); clear hx))
    | (with_reducible refine upon_fl rfl ?_; intro r n hr))
  go_ret
  refine ⟨_, rfl, ?_, by repeat (first | exact hw | refine Ext.drewN ?_ _)⟩
  rw [← lnP_can] at hl1 hl2
  simp only [isoP, lnR, *, fbin]

def hypH (p : Nat) : Nat := fdiv (fadd p (fdiv (can 4607182418800017408) p)) (can 4611686018427387904)
def hypK (p : Nat) : Nat := fdiv (fsub p (fdiv (can 4607182418800017408) p)) (can 4611686018427387904)
theorem expP_can (x : Nat) : expP (can x) = expP x := by
  cases h : isNan x with
  | false => rw [can_of_not h]
  | true => rw [can_of_nan h]; unfold expP; rw [if_pos isNan_QN, if_pos h]
def HyR (V : Nat) (w : World) (e : Ending) (w' : World) : Prop := ∃ h k, e = .returned (.tuple #[.float .f64 h, .float .f64 k]) ∧ can h = hypH (expP V) ∧ can k = hypK (expP V) ∧ Ext w w'
set_option maxHeartbeats 4000000 in
theorem hyper_c (x : Nat) (w : World) : Calls Tryd.prog 62 #[.float .f64 x] w (HyR (can x) w) := by
  unfold HyR
  rw [expP_can]
  have HX := Lib.hid (exp_c x)
  generalize expP x = P at *
  go_enter Tryd.func62, Tryd.ntmps62
  go_wp2_with (first
    | (go_at_call 69; go_must (refine (HX.out _).mono ?_; rintro e w1 ⟨p, rfl, hp, hx⟩; have hw : Ext w w1 := bareN hx rfl rfl rfl rfl; clear hx))
    | (with_reducible refine upon_fl rfl ?_; intro r n hr))
  go_ret2
  exact ⟨_, _, rfl, by simp only [hypH, *, fbin], by simp only [hypK, *, fbin], by repeat (first | exact hw | refine Ext.drewN ?_ _)⟩
end Go.Proofs.YtcppgbhjbmfldaaDoor

/- Walks: whose hyperbolic sine a number is; sine and cosine of an angle and a number beside it. -/
namespace Go.Proofs.YtcppgbhjbmfldaaDoor
open Go.RowKit Go.Fp Go.Rel
set_option maxRecDepth 20000

/-- the other sign -/
def negC (x : Nat) : Nat := can (Op.negFloat .f64 x)
theorem neg_nan (x : Nat) : isNan (Op.negFloat .f64 x) = isNan x := by
  obtain ⟨h1, _⟩ := neg_parts x
  have key : ∀ y z : Nat, y % 2 ^ 63 = z % 2 ^ 63 → isNan y = true → isNan z = true := by
    intro y z e h
    unfold isNan Ieee.Format.read at *
    simp only [D_sign, D_inf, D_bin, D_least] at *
    rw [e] at h
    split
    · rename_i h3; rw [if_pos h3] at h; cases h
    · rename_i h3
      rw [if_neg h3] at h
      split
      · rename_i h4; rw [if_pos h4] at h; cases h
      · rename_i h4
        rw [if_neg h4] at h
        split
        · rename_i h5; rw [if_pos h5] at h; cases h
        · rfl
  cases hx : isNan x with
  | true => exact key _ _ h1.symm hx
  | false =>
    cases hy : isNan (Op.negFloat .f64 x) with
    | false => rfl
    | true => rw [key _ _ h1 hy] at hx; cases hx
theorem neg_can (x : Nat) : can (Op.negFloat .f64 x) = negC (can x) := by
  unfold negC
  cases h : isNan x with
  | false => rw [can_of_not h]
  | true => rw [can_of_nan (by rw [neg_nan]; exact h), can_of_nan (x := Op.negFloat .f64 (can x)) (by rw [neg_nan, isNan_can]; exact h)]

/-- a complex number told but for which NaNs -/
def CxR (RE IM : Nat) (w : World) (e : Ending) (w' : World) : Prop := ∃ x y, e = .returned (.complex .f64 x y) ∧ can x = RE ∧ can y = IM ∧ Ext w w'
def sinRe (u : Int) (V : Nat) : Nat := fmul (can (sinP u)) (hypH (expP V))
def sinIm (u : Int) (V : Nat) : Nat := fmul (can (cosP u)) (hypK (expP V))
def cosRe (u : Int) (V : Nat) : Nat := fmul (can (cosP u)) (hypH (expP V))
def cosIm (u : Int) (V : Nat) : Nat := negC (fmul (can (sinP u)) (hypK (expP V)))
set_option maxHeartbeats 2000000 in
theorem sine_c (u : Int) (x : Nat) (w : World) : Calls Tryd.prog 50 #[.int .i64 u, .float .f64 x] w (CxR (sinRe u (can x)) (sinIm u (can x)) w) := by
  unfold CxR sinRe sinIm
  have HX := Lib.hid (hyper_c x)
  unfold HyR at HX
  generalize hypH (expP (can x)) = H at *
  generalize hypK (expP (can x)) = J at *
  go_enter Tryd.func50, Tryd.ntmps50
  go_wp2_with (first
    | (go_at_call 62; go_must (refine (HX.out _).mono ?_; rintro e w1 ⟨h, k, rfl, hh, hk, hx⟩; have hw : Ext w w1 := bareN hx rfl rfl rfl rfl; clear hx))
    | (go_at_call 33; go_must (refine (sin_c _ _).mono ?_; rintro e w2 ⟨rfl, hx⟩; replace hw := hw.trans (bareN hx rfl rfl rfl rfl); clear hx))
    | (go_at_call 34; go_must (refine (cos_c _ _).mono ?_; rintro e w3 ⟨rfl, hx⟩; replace hw := hw.trans (bareN hx rfl rfl rfl rfl); clear hx))
    | (with_reducible refine upon_fl rfl ?_; intro r n hr))
  go_ret
  exact ⟨_, _, rfl, by simp only [*, fbin], by simp only [*, fbin], by repeat (first | exact hw | refine Ext.drewN ?_ _)⟩

set_option maxHeartbeats 2000000 in
theorem cosine_c (u : Int) (x : Nat) (w : World) : Calls Tryd.prog 51 #[.int .i64 u, .float .f64 x] w (CxR (cosRe u (can x)) (cosIm u (can x)) w) := by
  unfold CxR cosRe cosIm
  have HX := Lib.hid (hyper_c x)
  unfold HyR at HX
  generalize hypH (expP (can x)) = H at *
  generalize hypK (expP (can x)) = J at *
  go_enter Tryd.func51, Tryd.ntmps51
  go_wp2_with (first
    | (go_at_call 62; go_must (refine (HX.out _).mono ?_; rintro e w1 ⟨h, k, rfl, hh, hk, hx⟩; have hw : Ext w w1 := bareN hx rfl rfl rfl rfl; clear hx))
    | (go_at_call 33; go_must (refine (sin_c _ _).mono ?_; rintro e w2 ⟨rfl, hx⟩; replace hw := hw.trans (bareN hx rfl rfl rfl rfl); clear hx))
    | (go_at_call 34; go_must (refine (cos_c _ _).mono ?_; rintro e w3 ⟨rfl, hx⟩; replace hw := hw.trans (bareN hx rfl rfl rfl rfl); clear hx))
    | (with_reducible refine upon_fl rfl ?_; intro r n hr))
  go_ret
  exact ⟨_, _, rfl, by simp only [*, fbin], by rw [neg_can]; simp only [*, fbin], by repeat (first | exact hw | refine Ext.drewN ?_ _)⟩

/-- whose hyperbolic sine a number is -/
def unP (X : Nat) : Nat := if D.order X 0 = some .lt then negC (can (lnP (fadd (negC X) (fsqrt (fadd (fmul X X) (can 4607182418800017408)))))) else can (lnP (fadd X (fsqrt (fadd (fmul X X) (can 4607182418800017408)))))
theorem order_canZ (x : Nat) : D.order (can x) 0 = D.order x 0 := by
  have := order_can x 0
  rwa [can0] at this
set_option maxHeartbeats 2000000 in
theorem unsinh_c (x : Nat) (w : World) : Calls Tryd.prog 64 #[.float .f64 x] w (FlR (unP (can x)) w) := by
  unfold unP
  rw [order_canZ]
  by_cases ho : D.order x 0 = some .lt
  · rw [if_pos ho]
    have o1 : FloatKind.f64.format.order x 0 = some .lt := ho
    clear ho
    go_enter Tryd.func64, Tryd.ntmps64
    go_wp2_with (first
      | (go_at_call 35; go_must (refine (sqrt_c _ _).mono ?_; rintro e w1 ⟨q, rfl, hq, hx⟩; have hw : Ext w w1 := bareN hx rfl rfl rfl rfl; clear hx))
      | (go_at_call 70; go_must (refine (ln_c _ _).mono ?_; rintro e w3 ⟨l1, rfl, hl1, hx⟩; replace hw := hw.trans (bareN hx rfl rfl rfl rfl); clear hx))
      | (with_reducible refine upon_fl rfl ?_; intro r n hr))
    go_ret
    refine ⟨_, rfl, ?_, by repeat (first | exact hw | refine Ext.drewN ?_ _)⟩
    rw [← lnP_can] at hl1
    rw [neg_can, hl1]
    simp only [*, fbin, neg_can]
  · rw [if_neg ho]
    have o1 : (FloatKind.f64.format.order x 0 == some .lt) = false := by rw [beq_eq_false_iff_ne]; exact ho
    clear ho
    go_enter Tryd.func64, Tryd.ntmps64
    go_wp2_with (first
      | (go_at_call 35; go_must (refine (sqrt_c _ _).mono ?_; rintro e w1 ⟨q, rfl, hq, hx⟩; have hw : Ext w w1 := bareN hx rfl rfl rfl rfl; clear hx))
      | (go_at_call 70; go_must (refine (ln_c _ _).mono ?_; rintro e w3 ⟨l1, rfl, hl1, hx⟩; replace hw := hw.trans (bareN hx rfl rfl rfl rfl); clear hx))
      | (with_reducible refine upon_fl rfl ?_; intro r n hr))
    go_ret
    refine ⟨_, rfl, ?_, by repeat (first | exact hw | refine Ext.drewN ?_ _)⟩
    rw [← lnP_can] at hl1
    rw [hl1]
    simp only [*, fbin]
end Go.Proofs.YtcppgbhjbmfldaaDoor

/- Walk: sine and cosine of an angle and a number beside it, the reference's. -/
namespace Go.Proofs.YtcppgbhjbmfldaaDoor
open Go.RowKit Go.Fp Go.Rel
set_option maxRecDepth 20000

def PrR (u : Int) (V : Nat) (w : World) (e : Ending) (w' : World) : Prop := ∃ a b c d, e = .returned (.tuple #[.agg #[.float .f64 a, .float .f64 b], .agg #[.float .f64 c, .float .f64 d]]) ∧
  can a = sinRe u V ∧ can b = sinIm u V ∧ can c = cosRe u V ∧ can d = cosIm u V ∧ Ext w w'
end Go.Proofs.YtcppgbhjbmfldaaDoor

/- Walk: the closure of package path's Reach. -/
namespace Go.Proofs.YtcppgbhjbmfldaaDoor
open Go.RowKit Go.Fp Go.Rel
set_option maxRecDepth 20000

abbrev tF : TypeId := 22
abbrev ptr (n : Nat) : Value := .pointer (some ⟨n, 0, none⟩)
/-- three blocks of one's own hold these; all else is as it was -/
def LookR (n3 n4 n5 : Nat) (CM SS CS : Nat) (w : World) (e : Ending) (w' : World) : Prop :=
  e = .returned (.tuple #[]) ∧ Blk w' n3 tF #[.float .f64 CM] ∧ Blk w' n4 tF #[.float .f64 SS] ∧ Blk w' n5 tF #[.float .f64 CS] ∧
  (∀ n t c, n ≠ n3 → n ≠ n4 → n ≠ n5 → Blk w n t c → Blk w' n t c) ∧ (∀ b, Ext b w → b.heap.size ≤ n3 → b.heap.size ≤ n4 → b.heap.size ≤ n5 → Ext b w')

/-- all but three blocks is as it was -/
structure Own3 (w0 : World) (n3 n4 n5 : Nat) (w : World) : Prop where
  blk : ∀ n t c, n ≠ n3 → n ≠ n4 → n ≠ n5 → Blk w0 n t c → Blk w n t c
  ext : ∀ b, Ext b w0 → b.heap.size ≤ n3 → b.heap.size ≤ n4 → b.heap.size ≤ n5 → Ext b w
theorem Own3.refl (w : World) (n3 n4 n5 : Nat) : Own3 w n3 n4 n5 w := ⟨fun _ _ _ _ _ _ h => h, fun _ h _ _ _ => h⟩
theorem Own3.step {w0 w w' : World} {n3 n4 n5 : Nat} (h : Own3 w0 n3 n4 n5 w) (hx : Ext w w') : Own3 w0 n3 n4 n5 w' :=
  ⟨fun n t c a b d k => (h.blk n t c a b d k).ext hx, fun b hb x y z => (h.ext b hb x y z).trans hx⟩
theorem Own3.store {w0 w w' : World} {n3 n4 n5 g : Nat} (h : Own3 w0 n3 n4 n5 w) (hg : g = n3 ∨ g = n4 ∨ g = n5) (hx : ∀ b, Ext b w → b.heap.size ≤ g → Ext b w') (hs : ∀ n, n ≠ g → w'.heap[n]? = w.heap[n]?) :
    Own3 w0 n3 n4 n5 w' :=
  ⟨fun n t c a b d k => Blk.same (h.blk n t c a b d k) hs (by rcases hg with rfl | rfl | rfl <;> assumption),
   fun b hb x y z => hx b (h.ext b hb x y z) (by rcases hg with rfl | rfl | rfl <;> assumption)⟩
theorem Own3.drewN {w0 w : World} {n3 n4 n5 : Nat} (h : Own3 w0 n3 n4 n5 w) (k : Nat) : Own3 w0 n3 n4 n5 (w.drewN k) := h.step ((Ext.refl w).drewN k)

end Go.Proofs.YtcppgbhjbmfldaaDoor

/- Walks: a sum of powers, the reference's and package wave's. -/
namespace Go.Proofs.YtcppgbhjbmfldaaDoor
open Go.RowKit Go.Fp Go.Rel
set_option maxRecDepth 20000

/-- floats in a row -/
def fls (cs : List Nat) : Array Value := (cs.map fun c => Value.float .f64 c).toArray
theorem fls_get (cs : List Nat) (i : Nat) (h : i < cs.length) : (fls cs)[i]? = some (.float .f64 (cs.getD i 0)) := by
  simp [fls, List.getD, h]
/-- the sum, from its first terms -/
def hornP (n : Nat) (cs : List Nat) : Nat → Nat
  | 0 => 0
  | k + 1 => fadd (can (cs.getD k 0)) (fmul n (hornP n cs k))
/-- the sum, from its last terms -/
def polyS (n : Nat) (cs : List Nat) : Nat → Nat
  | 0 => can (cs.getD (cs.length - 1) 0)
  | k + 1 => fadd (can (cs.getD (cs.length - 2 - k) 0)) (fmul n (polyS n cs k))
set_option maxHeartbeats 4000000 in
theorem poly_c (n : Nat) (cs : List Nat) (g cap p : Nat) (t : TypeId) (w : World) (hb : Blk w g t (fls cs)) (hl : cs.length < 1000) (hl2 : 2 ≤ cs.length) (hp : Blk w p tF #[.float .f64 n]) :
    Calls Tryd.prog 65 #[.slice (some ⟨g, 0, none⟩) cs.length cap, ptr p] w (FlR (polyS (can n) cs (cs.length - 1)) w) := by
  obtain ⟨L, hL⟩ : ∃ L, cs.length = L + 2 := ⟨cs.length - 2, by omega⟩
  have hc0 : w.cell? ⟨g, L + 1, none⟩ = some (.float .f64 (cs.getD (cs.length - 1) 0)) := by rw [hb.cell (L + 1), fls_get cs (L + 1) (by omega)]; congr 3; omega
  obtain ⟨c0, hcd⟩ : ∃ c, c = cs.getD (cs.length - 1) 0 := ⟨_, rfl⟩
  rw [← hcd] at hc0
  have HD := Lib.hid hcd
  have HL := Lib.hid hL
  rw [hL]
  clear hcd
  go_enter Tryd.func65, Tryd.ntmps65
  go_wp2_with fail
  go_loopw [4, 5] (fun s i wr => ∃ (k rs : Nat), k ≤ L + 1 ∧ i = .int .i64 ((L : Int) - (k : Int)) ∧ s = .float .f64 rs ∧ can rs = polyS (can n) cs k ∧ Ext w wr) (fun _ i _ => (intOf i + 1).toNat)
  case atStart => exact ⟨0, c0, by omega, by simp, rfl, by rw [HD.out]; rfl, Ext.refl _⟩
  case round =>
    obtain ⟨k, rs, hk, rfl, rfl, hs, hw⟩ := hrel
    have HS := Lib.hid hs
    clear hs
    by_cases hlt : k < L + 1
    · obtain ⟨j, hj⟩ : ∃ j : Nat, L = j + k := ⟨L - k, by omega⟩
      have hji : (L : Int) - (k : Int) = (j : Int) := by omega
      rw [hji]
      have hc : wr.cell? ⟨g, j, none⟩ = some (.float .f64 (cs.getD (cs.length - 2 - k) 0)) := by
        rw [(hb.ext hw).cell j, fls_get cs j (by have := HL.out; omega)]
        congr 3; have := HL.out; omega
      obtain ⟨c, hcd⟩ : ∃ c, c = cs.getD (cs.length - 2 - k) 0 := ⟨_, rfl⟩
      rw [← hcd] at hc
      have HC := Lib.hid hcd
      have hpc := (hp.ext hw).cell 0
      clear hcd hji
      have hJ := Lib.hid hj
      have hjb : j < 1000 := by omega
      have hjL : j < L + 2 := by omega
      have q0 : (0 : Int) ≤ (j : Int) := by omega
      have q1 : (j : Int) < ((L + 2 : Nat) : Int) := by omega
      have q2 : (j : Int) < (L : Int) + 2 := by omega
      have q3 : ¬ ((L : Int) + 2 ≤ (j : Int)) := by omega
      clear hj
      go_wp2_with fail
      refine wp_region_all (fun _ _ _ => False) (by kernel_rfl) (by kernel_rfl) ?_
      repeat (first
        | (refine wpR_op rfl (fun w1 hx K hK => ?_); have k1 : w1.cell? ⟨g, j, none⟩ = some (.float .f64 c) := (by rw [((hb.ext hw).ext (bareN hx rfl rfl rfl rfl)).cell j, ← (hb.ext hw).cell j]; exact hc); have k2 := ((hp.ext hw).ext (bareN hx rfl rfl rfl rfl)).cell 0; go_simp; refine hK _ ?_; clear hK K k1 k2 hx w1)
        | (refine wpR_op rfl (fun w1 hx K hK => ?_); go_simp; refine rel_fl rfl ?_; intro y hy; refine hK _ ?_; clear hK K hx w1))
      refine wpR_nil ?_
      intro w2 hx _
      replace hw := hw.trans (bareN hx rfl rfl rfl rfl)
      go_wp2_with fail
      go_roundw
      case rel =>
        refine ⟨_, _, _, _, _, _, _, _, _, _, _, _, _, _, ?_, rfl⟩
        refine ⟨k + 1, y, by have := hJ.out; omega, by have := hJ.out; congr 1; omega, rfl, ?_, hw⟩
        have h1 := HS.out
        have h2 := HC.out
        rw [hy, h2]
        simp only [fbin, *]
        show _ = fadd (can (cs.getD (cs.length - 2 - k) 0)) (fmul (can n) (polyS (can n) cs k))
        rw [HL.out]
      case measure => simp [intOf]
    · have hkL : k = L + 1 := by omega
      subst hkL
      go_wp2_with fail
      go_ret
      exact ⟨_, rfl, by rw [HS.out]; rfl, hw⟩
end Go.Proofs.YtcppgbhjbmfldaaDoor
