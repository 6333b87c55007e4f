/- The geodesic between two places: the search finds it. -/
import Derived.Test.YtfhpnkmpjijebaaDoorZV
namespace Go.Proofs.YtfhpnkmpjijebaaDoor
open Go.Fp Go.Fp.Tri
set_option maxRecDepth 20000
theorem v_c11 : Fp.Fin c11 ∧ 9999 / 1000000000000000 ≤ vl c11 ∧ vl c11 ≤ 10001 / 1000000000000000 := by
  obtain ⟨a, b⟩ : Fp.Fin c11 ∧ vl c11 = 6189700196426901 / 618970019642690137449562112 := vl_const (s := false) (m := 6189700196426901) (k := 89) (by decide +kernel) (by decide +kernel)
  exact ⟨a, by rw [b]; grind, by rw [b]; grind⟩
theorem v_m11 : Fp.Fin m11 ∧ -(10001 / 1000000000000000) ≤ vl m11 ∧ vl m11 ≤ -(9999 / 1000000000000000) := by
  obtain ⟨a, b⟩ : Fp.Fin m11 ∧ vl m11 = -(6189700196426901 / 618970019642690137449562112) := vl_const (s := true) (m := 6189700196426901) (k := 89) (by decide +kernel) (by decide +kernel)
  exact ⟨a, by rw [b]; grind, by rw [b]; grind⟩
theorem close_yes {v : LineV} {x : Nat} (fx : Fp.Fin x) (fn : Fp.Fin (v.next x)) (h : Wn (vl (v.next x) - vl x) (998 / 100000000000000)) : v.close x = true := by
  have u1 : uu = 1 / 9007199254740992 := uu_eq
  obtain ⟨f, e⟩ := fsub_err fn fx _ h (big_le' (by grind))
  have := eta_tiny
  have d : Wn (vl (fsub (v.next x) x)) (9981 / 1000000000000000) := (wn_add e h).of (by grind) (by rw [u1]; grind)
  obtain ⟨f1, a1, _⟩ := v_c11
  obtain ⟨f2, _, a2⟩ := v_m11
  unfold LineV.close
  rw [(order_lt f f1).2 (by have := d.2; grind), (order_gt f f2).2 (by have := d.1; grind)]
  rfl
theorem close_is {v : LineV} {x : Nat} (fx : Fp.Fin x) (fn : Fp.Fin (v.next x)) (b : Wn (vl (v.next x) - vl x) 10) (h : v.close x = true) : Wn (vl (v.next x) - vl x) (1001 / 100000000000000) := by
  have u1 : uu = 1 / 9007199254740992 := uu_eq
  obtain ⟨f, e⟩ := fsub_err fn fx (rabs (vl (v.next x) - vl x)) (wn_rabs _) (big_le' (by have := rabs_le b; grind))
  have := eta_tiny
  obtain ⟨f1, _, a1⟩ := v_c11
  obtain ⟨f2, a2, _⟩ := v_m11
  unfold LineV.close at h
  rw [Bool.and_eq_true, Bool.or_eq_true, Bool.or_eq_true] at h
  obtain ⟨h1, h2⟩ := h
  have b1 : vl (fsub (v.next x) x) ≤ vl c11 := by
    rcases h1 with k | k
    · have := (order_lt f f1).1 (by simpa using k); grind
    · have := (order_eq f f1).1 (by simpa using k); grind
  have b2 : vl m11 ≤ vl (fsub (v.next x) x) := by
    rcases h2 with k | k
    · have := (order_gt f f2).1 (by simpa using k); grind
    · have := (order_eq f f2).1 (by simpa using k); grind
  have w := wn_rabs (vl (v.next x) - vl x)
  have r := rabs_nonneg (vl (v.next x) - vl x)
  have k : rabs (vl (v.next x) - vl x) ≤ 10001 / 1000000000000000 + (uu * rabs (vl (v.next x) - vl x) + eta) := by
    refine rabs_le ?_
    refine (wn_sub (show Wn (vl (fsub (v.next x) x)) (10001 / 1000000000000000) from ⟨by grind, by grind⟩) e).of (by grind) (by grind)
  rw [u1] at k
  exact w.mono (by grind)
/-- a difference of longitudes within -/
structure At (v : LineV) (g : Int) (x : Nat) : Prop where
  fx : Fp.Fin x
  no : LineV.out x = false
  w : ∃ j, Within v g (nearP x) j
  ne : Wn ((nearP x : Rat) * rho - vl x) (9 / 1000000000000)
  bx : Wn (vl x) 4
/-- what the search finds -/
structure Fnd (v : LineV) (g : Int) (y : Nat) : Prop where
  at1 : At v g y
  prev : ∃ x, At v g x ∧ y = v.next x ∧ Wn (vl y - ((A0v v : Rat) * rho + vl (LHv v x))) (3 / 1000000000000000) ∧ Wn (vl y - vl x) (1001 / 100000000000000)
theorem next_at {v : LineV} (e : Ends v) {g : Int} (a1 : g * A0v v < 180000000000) {x : Nat} (h : At v g x) : At v g (v.next x) ∧ Wn (vl (v.next x) - ((A0v v : Rat) * rho + vl (LHv v x))) (3 / 1000000000000000) := by
  have u1 : uu = 1 / 9007199254740992 := uu_eq
  obtain ⟨j, w⟩ := h.w
  obtain ⟨k, hk⟩ : ∃ k, g * nearP x + k = 180000000000 := ⟨180000000000 - g * nearP x, by omega⟩
  obtain ⟨fL, L0, L1, L2⟩ := long_at e w hk
  have bAi : -180000000000 ≤ A0v v ∧ A0v v ≤ 180000000000 := by have := w.a0; rcases w.dir with rfl | rfl <;> omega
  obtain ⟨fa, ea⟩ := rad_near (n := A0v v) (B := 180000000000) bAi.1 bAi.2 (by omega)
  have bA : Wn ((A0v v : Rat) * rho) (31418 / 10000) := (rho_int bAi.1 bAi.2).mono (arc_le (o := 180000000000) (by omega) (by omega)).2
  have hn : v.next x = fadd (radP (A0v v)) (LHv v x) := rfl
  have ba : Wn (vl (radP (A0v v))) (31419 / 10000) := (wn_add ea bA).of (by grind) (by grind)
  obtain ⟨fn, en⟩ := addE fa fL _ (wn_add ba L2) (by grind)
  rw [← hn] at fn en
  have hy : Wn (vl (v.next x) - ((A0v v : Rat) * rho + vl (LHv v x))) (3 / 1000000000000000) := (wn_add en ea).of (by grind) (by rw [u1]; grind)
  have kk : (k : Rat) * rho ≤ ((180000000000 - g * A0v v : Int) : Rat) * rho := by
    refine Rat.mul_le_mul_of_nonneg_right (castle ?_) (Rat.le_of_lt rho_pos)
    have := w.j0
    have := w.hm
    rcases w.dir with rfl | rfl <;> omega
  obtain ⟨⟨j', w', _⟩, no, ne⟩ := within_of w.dir w.a0 a1 fn hy L0 (by generalize ((180000000000 - g * A0v v : Int) : Rat) * rho = z at *; grind) L2
  exact ⟨⟨fn, no, ⟨j', w'⟩, ne, (wn_add en (wn_add ba L2)).of (by grind) (by rw [u1]; grind)⟩, hy⟩
/-- one round after the other -/
structure Pair (v : LineV) (g : Int) (p x : Nat) (d : Int) : Prop where
  ap : At v g p
  ax : At v g x
  hx : Wn (vl x - ((A0v v : Rat) * rho + vl (LHv v p))) (3 / 1000000000000000)
  hd : -d ≤ nearP x - nearP p ∧ nearP x - nearP p ≤ d
theorem cast_wn {m d : Int} (h : -d ≤ m ∧ m ≤ d) : Wn (m : Rat) (d : Rat) := by
  have a := castle h.1
  have b := castle h.2
  rw [Rat.intCast_neg] at a
  exact ⟨a, b⟩
/-- how far the next one is off, in nanodegrees -/
theorem pair_next {v : LineV} (e : Ends v) {g : Int} (a1 : g * A0v v < 180000000000) {p x : Nat} {d : Int} (h : Pair v g p x d) {E : Rat} (hE : Wn (vl (LHv v x) - vl (LHv v p)) E) :
    Wn (vl (v.next x) - vl x) (E + 6 / 1000000000000000) ∧ ∀ d' : Int, E + 181 / 10000000000000 < ((d' + 1 : Int) : Rat) * rho → Pair v g x (v.next x) d' := by
  obtain ⟨an, hn⟩ := next_at e a1 h.ax
  have dv : Wn (vl (v.next x) - vl x) (E + 6 / 1000000000000000) := (wn_add (wn_sub hn h.hx) hE).of (by grind) (by grind)
  refine ⟨dv, fun d' hd => ⟨h.ax, an, hn, ?_⟩⟩
  have p := rho_pos
  have t : Wn (((nearP (v.next x) - nearP x : Int) : Rat) * rho) (E + 181 / 10000000000000) := by
    refine (wn_add (wn_sub an.ne h.ax.ne) dv).of ?_ (by grind)
    rw [Rat.intCast_sub]; grind
  constructor
  · rcases Int.lt_or_le (nearP (v.next x) - nearP x) (-d') with q | q
    · exfalso
      have := Rat.mul_le_mul_of_nonneg_right (castle (show nearP (v.next x) - nearP x ≤ -(d' + 1) by omega)) (Rat.le_of_lt p)
      rw [Rat.intCast_neg (d' + 1)] at this
      have := t.1
      grind
    · exact q
  · rcases Int.lt_or_le d' (nearP (v.next x) - nearP x) with q | q
    · exfalso
      have := Rat.mul_le_mul_of_nonneg_right (castle (show d' + 1 ≤ nearP (v.next x) - nearP x by omega)) (Rat.le_of_lt p)
      have := t.2
      grind
    · exact q
theorem pair_lip {v : LineV} (e : Ends v) {g : Int} {p x : Nat} {d : Int} (h : Pair v g p x d) :
    (d ≤ 2000000000 → Wn (vl (LHv v x) - vl (LHv v p)) (4986 / 10000 * ((d : Rat) * rho) + 4 / 1000000000000)) ∧ (d ≤ 3 → Wn (vl (LHv v x) - vl (LHv v p)) (2549 / 10000 * ((d : Rat) * rho) + 34 / 10000000000000)) := by
  obtain ⟨j, w⟩ := h.ap.w
  obtain ⟨j', w'⟩ := h.ax.w
  obtain ⟨A, B, K, _⟩ := line_at e w
  obtain ⟨A', B', _, _⟩ := line_at e w'
  exact ⟨fun k => lip_crude e.ff e.f0 e.f1 e.h1 e.h2 A A' B B' K (cast_wn h.hd) k, fun k => lip_fine e.ff e.f0 e.f1 e.h1 e.h2 A A' B B' K (cast_wn h.hd) k⟩
/-- the round that finds it, or goes on -/
theorem round_go {v : LineV} {g : Int} {x : Nat} (hx : At v g x) (hn : At v g (v.next x)) (hy : Wn (vl (v.next x) - ((A0v v : Rat) * rho + vl (LHv v x))) (3 / 1000000000000000)) (n : Nat) :
    (v.close x = true → ∃ y, v.go (n + 1) x = some y ∧ Fnd v g y) ∧ (v.close x = false → v.go (n + 1) x = v.go n (v.next x)) := by
  refine ⟨fun h => ⟨v.next x, ?_, hn, x, hx, rfl, hy, ?_⟩, fun h => go_far n hx.no h⟩
  · rw [go_near n hx.no h, hn.no]; rfl
  · exact close_is hx.fx hn.fx ((wn_sub hn.bx hx.bx).mono (by grind)) h
theorem pair_go0 {v : LineV} (e : Ends v) {g : Int} (a1 : g * A0v v < 180000000000) {p x : Nat} (h : Pair v g p x 1) (n : Nat) : ∃ y, v.go (n + 1) x = some y ∧ Fnd v g y := by
  obtain ⟨an, hn⟩ := next_at e a1 h.ax
  refine (round_go h.ax an hn n).1 (close_yes h.ax.fx an.fx ?_)
  refine (pair_next e a1 h ((pair_lip e h).2 (by omega))).1.mono ?_
  have := rho_hi
  have e : ((1 : Int) : Rat) = 1 := rfl
  rw [e]; grind
theorem pair_go1 {v : LineV} (e : Ends v) {g : Int} (a1 : g * A0v v < 180000000000) {p x : Nat} (h : Pair v g p x 3) (n : Nat) : ∃ y, v.go (n + 2) x = some y ∧ Fnd v g y := by
  obtain ⟨an, hn⟩ := next_at e a1 h.ax
  obtain ⟨r1, r2⟩ := round_go h.ax an hn (n + 1)
  cases k : v.close x with
  | true => exact r1 k
  | false =>
    rw [show n + 2 = n + 1 + 1 by omega, r2 k]
    refine pair_go0 e a1 ((pair_next e a1 h ((pair_lip e h).2 (by omega))).2 1 ?_) n
    have := rho_lo
    have e : ((3 : Int) : Rat) = 3 := rfl
    have e2 : ((1 + 1 : Int) : Rat) = 2 := rfl
    rw [e, e2]; grind
theorem pair_go {v : LineV} (e : Ends v) {g : Int} (a1 : g * A0v v < 180000000000) (n : Nat) : ∀ (k : Nat) {p x : Nat} {d : Int}, Pair v g p x d → d ≤ 2000000000 → 0 ≤ d → d ≤ 2 ^ (k + 1) + 1 → ∃ y, v.go (n + 2 + k) x = some y ∧ Fnd v g y := by
  intro k
  induction k with
  | zero =>
    intro p x d h _ _ hd
    exact pair_go1 e a1 ⟨h.ap, h.ax, h.hx, by have := h.hd; omega, by have := h.hd; omega⟩ n
  | succ k ih =>
    intro p x d h h1 h0 hd
    obtain ⟨an, hn⟩ := next_at e a1 h.ax
    obtain ⟨r1, r2⟩ := round_go h.ax an hn (n + 2 + k)
    cases q : v.close x with
    | true => exact r1 q
    | false =>
      rw [show n + 2 + (k + 1) = n + 2 + k + 1 by omega, r2 q]
      obtain ⟨d', hd'⟩ : ∃ d', d' = (d + 1) / 2 + 1 := ⟨_, rfl⟩
      have b : (2 : Int) ^ (k + 1 + 1) = 2 * 2 ^ (k + 1) := by rw [Int.pow_succ]; omega
      have pk : (1 : Int) ≤ 2 ^ (k + 1) := by have := Int.pow_pos (n := 2) (m := k + 1) (by omega); omega
      by_cases z : d ≤ 3
      · have := pair_go1 e a1 (p := x) (x := v.next x) ?_ (n + k)
        · rw [show n + 2 + k = n + k + 2 by omega]; exact this
        · refine (pair_next e a1 h ((pair_lip e h).2 z)).2 3 ?_
          have := rho_lo
          have c := Rat.mul_le_mul_of_nonneg_right (castle z) (Rat.le_of_lt rho_pos)
          have e : ((3 : Int) : Rat) = 3 := rfl
          have e2 : ((3 + 1 : Int) : Rat) = 4 := rfl
          rw [e] at c
          rw [e2]; grind
      · refine ih (d := d / 2 + 1) ((pair_next e a1 h ((pair_lip e h).1 h1)).2 _ ?_) (by omega) (by omega) (by omega)
        have c := Rat.mul_le_mul_of_nonneg_right (castle (show d - 1 ≤ 2 * (d / 2) by omega)) (Rat.le_of_lt rho_pos)
        have lo := rho_lo
        have d3 := Rat.mul_le_mul_of_nonneg_right (castle (show 4 ≤ d by omega)) (Rat.le_of_lt rho_pos)
        generalize d / 2 = q at *
        rw [show q + 1 + 1 = q + 2 by omega, Rat.intCast_add]
        rw [Rat.intCast_sub, Rat.intCast_mul] at c
        have e1 : ((1 : Int) : Rat) = 1 := rfl
        have e2 : ((2 : Int) : Rat) = 2 := rfl
        have e4 : ((4 : Int) : Rat) = 4 := rfl
        rw [e1, e2] at c
        rw [e2]
        rw [e4] at d3
        grind
end Go.Proofs.YtfhpnkmpjijebaaDoor

/- The geodesic between two places: it is found. -/
namespace Go.Proofs.YtfhpnkmpjijebaaDoor
open Go.Fp Go.Fp.Tri
set_option maxRecDepth 20000
set_option maxHeartbeats 4000000 in
theorem long_zero {f c sa o ss cs cm : Nat} (ff : Fp.Fin f) (f0 : 0 ≤ vl f) (f1 : vl f ≤ 10001 / 1000000) (fc : Fp.Fin c) (fsa : Fp.Fin sa) (fo : Fp.Fin o) (fcs : Fp.Fin cs) (fss : Fp.Fin ss) (fcm : Fp.Fin cm) (zsa : vl sa = 0) (bo : Wn (vl o) (32 / 10)) (bcs : Wn (vl cs) (101 / 100)) (bss : Wn (vl ss) (101 / 100))
    (bc : rabs (vl c) ≤ 3 / 1000) (bcm : rabs (vl cm) ≤ 100000000000000000000) (bK : rabs (vl c) * rabs (vl cm) ≤ 1 / 100) :
    Fp.Fin (longerP f c sa o ss cs cm) ∧ vl (longerP f c sa o ss cs cm) = 0 := by
  have u1 : uu = 1 / 9007199254740992 := uu_eq
  obtain ⟨g1, e1⟩ := inner_gen fc fcs fss fcm bcs bss bc bcm bK
  have wc : Wn (vl c) (3 / 1000) := (wn_rabs _).mono bc
  have wK : Wn (vl c * vl cm) (1 / 100) := by have := wn_rabs (vl c * vl cm); rw [rabs_mul] at this; exact this.mono bK
  have bE : Wn (vl ss * (vl c * vl cm + vl cs * (2 * (vl c * vl cm * (vl c * vl cm)) - vl c * vl c))) (11 / 1000) := by
    have a := wn_mul bcs (wn_sub (wn_mul (show Wn (2 : Rat) 2 from ⟨by grind, Rat.le_refl⟩) (wn_mul wK wK)) (wn_mul wc wc))
    exact (wn_mul bss (wn_add wK a)).mono (by grind)
  have hL : longerP f c sa o ss cs cm = fmul (fmul (fmul (fsub (can c1) c) f) sa) (fadd o (fmul (fmul c ss) (fadd cm (fmul (fmul c cs) (twiceP cm))))) := rfl
  rw [hL]
  generalize vl ss * (vl c * vl cm + vl cs * (2 * (vl c * vl cm * (vl c * vl cm)) - vl c * vl c)) = E at *
  generalize fmul (fmul c ss) (fadd cm (fmul (fmul c cs) (twiceP cm))) = k at *
  have bk : Wn (vl k) (12 / 1000) := (wn_add e1 bE).of (by grind) (by grind)
  obtain ⟨g2, e2⟩ := addE fo g1 _ (wn_add bo bk) (by grind)
  have b2 : Wn (vl (fadd o k)) (33 / 10) := (wn_add e2 (wn_add bo bk)).of (by grind) (by rw [u1]; grind)
  obtain ⟨g3, e3⟩ := subE v_cc1.1 fc (1003 / 1000) (by rw [v_cc1.2]; obtain ⟨_, _⟩ := wc; constructor <;> grind) (by grind)
  rw [v_cc1.2] at e3
  have bf : Wn (vl f) (10001 / 1000000) := ⟨by grind, f1⟩
  have b3 : Wn (vl (fsub (can c1) c)) (1004 / 1000) := by obtain ⟨_, _⟩ := wc; obtain ⟨_, _⟩ := e3; rw [u1] at *; constructor <;> grind
  obtain ⟨g4, e4⟩ := mulE g3 ff _ (wn_mul b3 bf) (by grind)
  have b4 : Wn (vl (fmul (fsub (can c1) c) f)) (101 / 10000) := (wn_add e4 (wn_mul b3 bf)).of (by grind) (by rw [u1]; grind)
  have z : Wn (vl sa) 0 := by rw [zsa]; constructor <;> grind
  obtain ⟨g5, e5⟩ := mulC g4 fsa b4 z (by grind)
  have z5 : vl (fmul (fmul (fsub (can c1) c) f) sa) = 0 := vl_small g5 (e5.of (by rw [zsa]; grind) (by grind))
  obtain ⟨g6, e6⟩ := mulC g5 g2 (show Wn (vl (fmul (fmul (fsub (can c1) c) f) sa)) 0 from by rw [z5]; constructor <;> grind) b2 (by grind)
  exact ⟨g6, vl_small g6 (e6.of (by rw [z5]; grind) (by grind))⟩
/-- due opposite in longitude: no lengthening -/
theorem long_half {v : LineV} (e : Ends v) {x : Nat} (A : LineA v x) (B : LineB v x) (hm : nearP x = 180000000000) : Fp.Fin (LHv v x) ∧ vl (LHv v x) = 0 := by
  obtain ⟨κ, c⟩ := line_c e.ff e.f0 e.f1 e.h1 e.h2 A B
  have u1 : uu = 1 / 9007199254740992 := uu_eq
  have zsl : vl (LineV.sl x) = 0 := by
    have fs := (cis_near (nearP x)).2.1
    unfold LineV.sl
    rw [fs.can, hm]; exact sin_180
  have bc1 : Wn (vl v.cu1) (1001 / 1000) := e.h1.bc
  have bc2 : Wn (vl v.cu2) (1001 / 1000) := e.h2.bc
  obtain ⟨g1, e1⟩ := mulE (x := v.cu1) (y := v.cu2) e.h1.fc e.h2.fc _ (wn_mul bc1 bc2) (by grind)
  have b1 : Wn (vl (fmul v.cu1 v.cu2)) (11 / 10) := (wn_add e1 (wn_mul bc1 bc2)).of (by grind) (by rw [u1]; grind)
  obtain ⟨g2, e2⟩ := mulC g1 A.fsl b1 (show Wn (vl (LineV.sl x)) 0 from by rw [zsl]; constructor <;> grind) (by grind)
  have z2 : vl (fmul (fmul v.cu1 v.cu2) (LineV.sl x)) = 0 := vl_small g2 (e2.of (by rw [zsl]; grind) (by grind))
  have r0 := B.r0
  have hsa : v.sa x = fdiv (fmul (fmul v.cu1 v.cu2) (LineV.sl x)) (v.ss x) := by
    unfold LineV.sa
    rw [if_neg]
    intro h
    have := (order_eq B.fss v_0.1).1 h
    rw [v_0.2] at this
    grind
  have zq : vl (fmul (fmul v.cu1 v.cu2) (LineV.sl x)) / vl (v.ss x) = 0 := by rw [z2, Rat.div_def]; grind
  obtain ⟨g3, e3⟩ := fdiv_err g2 B.fss (by grind) 0 (by rw [zq]; constructor <;> grind) (big60 (by grind))
  rw [← hsa, zq] at e3
  have zsa : vl (v.sa x) = 0 := vl_small B.fsa (e3.of (by grind) (by grind))
  have bca : Wn (vl (v.ca x)) (1000001 / 1000000) := ⟨by have := B.ca0; grind, B.ca1⟩
  obtain ⟨κ2, ft, et, eκ⟩ := third_gen e.ff e.f0 e.f1 B.fca (bca.mono (by grind)) c.nca
  have κ0 : Wn κ2 (27 / 10000) := by
    have a := wn_sub eκ c.eκ
    exact (wn_add a c.κ0).of (by grind) (by grind)
  have bo : Wn (vl (v.o x)) (32 / 10) := by
    obtain ⟨a0, a1⟩ := arc_le B.o0 B.o1
    exact (wn_add B.eo (show Wn ((oIv v x : Rat) * rho) (31418 / 10000) from ⟨by grind, a1⟩)).of (by grind) (by grind)
  have cbd : Wn (vl (thirdP v.f (v.ca x))) (3 / 1000) := by rw [et]; exact (wn_mul κ0 bca).mono (by grind)
  have cK : Wn (vl (thirdP v.f (v.ca x)) * vl (v.cm x)) (1 / 100) := by rw [et]; exact (wn_mul κ0 c.bM).of (by grind) (by grind)
  have cK' := rabs_le cK
  rw [rabs_mul] at cK'
  have := long_zero e.ff e.f0 e.f1 ft B.fsa B.fo A.fcs B.fss c.fcm zsa bo A.bcs (show Wn (vl (v.ss x)) (101 / 100) from ⟨by grind, by have := B.r1; grind⟩) (rabs_le cbd) c.bcm cK'
  have hf : can v.f = v.f := e.ff.can
  unfold LHv
  rw [hf]; exact this
end Go.Proofs.YtfhpnkmpjijebaaDoor

/- The geodesic between two places: joined: it is found. -/
namespace Go.Proofs.YtfhpnkmpjijebaaDoor
open Go.Fp Go.Fp.Tri
set_option maxRecDepth 20000
theorem all_pi : radP 180000000000 = cPi ∧ fadd cPi 0 = cPi := by decide +kernel
/-- due opposite in longitude -/
theorem at_half {v : LineV} (hA : A0v v = 180000000000) {x : Nat} (fx : Fp.Fin x) (hx : vl x = 7074237752028440 / 2251799813685248) : At v 1 x ∧ nearP x = 180000000000 := by
  have pr := pi_rho
  have ne := near_err fx (show Wn (vl x) 5 from by rw [hx]; constructor <;> grind)
  have p := rho_pos
  have lo := rho_lo
  have m : nearP x = 180000000000 := by
    rcases Int.lt_or_le (nearP x) 180000000000 with q | q
    · exfalso
      have := Rat.mul_le_mul_of_nonneg_right (castle (show nearP x ≤ 179999999999 by omega)) (Rat.le_of_lt p)
      have e : ((179999999999 : Int) : Rat) = 179999999999 := rfl
      rw [e] at this
      have := ne.1
      have := pr.1
      have := pr.2
      rw [hx] at *
      grind
    · rcases Int.lt_or_le 180000000000 (nearP x) with q2 | q2
      · exfalso
        have := Rat.mul_le_mul_of_nonneg_right (castle (show 180000000001 ≤ nearP x by omega)) (Rat.le_of_lt p)
        have e : ((180000000001 : Int) : Rat) = 180000000001 := rfl
        rw [e] at this
        have := ne.2
        have := pr.2
        have := pr.1
        rw [hx] at *
        grind
      · omega
  refine ⟨⟨fx, out_not fx (by rw [hx]; constructor <;> grind), ⟨0, .inl rfl, by omega, by omega, by omega, by omega, by omega⟩, ne, by rw [hx]; constructor <;> grind⟩, m⟩
/-- the geodesic is found -/
theorem between_fnd {v : LineV} (e : Ends v) : ∃ g y, v.go 60 v.all = some y ∧ Fnd v g y := by
  have u1 : uu = 1 / 9007199254740992 := uu_eq
  have sr : -180000000000 < A0v v ∧ A0v v ≤ 180000000000 := by
    show -180000000000 < signP _ ∧ signP _ ≤ 180000000000
    generalize normP v.lonB - normP v.lonA = q
    unfold signP normP
    split <;> omega
  obtain ⟨fa, ea⟩ := rad_near (n := A0v v) (B := 180000000000) (by omega) (by omega) (by omega)
  by_cases hA : A0v v = 180000000000
  · have hall : v.all = cPi := by
      show radP (A0v v) = cPi
      rw [hA]; exact all_pi.1
    obtain ⟨ha, ma⟩ := at_half hA (x := v.all) (by rw [hall]; exact v_cPi.1) (by rw [hall]; exact v_cPi.2)
    obtain ⟨j, w⟩ := ha.w
    obtain ⟨A, B, _, _⟩ := line_at e w
    obtain ⟨fL, zL⟩ := long_half e A B ma
    have hn : v.next v.all = fadd v.all (LHv v v.all) := rfl
    have b : Wn (vl v.all + 0) 4 := by rw [hall, v_cPi.2]; constructor <;> grind
    obtain ⟨fn, _⟩ := addE ha.fx fL 4 (by rw [zL]; exact b) (by grind)
    have z0 : vl 0 = 0 := v_0.2
    have up := fadd_mono ha.fx fL ha.fx v_0.1 (B := 4) (by rw [zL]; exact b) (by rw [z0]; exact b) (big_le' (by grind)) (by rw [zL, z0]; exact Rat.le_refl)
    have dn := fadd_mono ha.fx v_0.1 ha.fx fL (B := 4) (by rw [z0]; exact b) (by rw [zL]; exact b) (big_le' (by grind)) (by rw [zL, z0]; exact Rat.le_refl)
    rw [← hn] at fn up dn
    have hz : fadd v.all 0 = cPi := by rw [hall]; exact all_pi.2
    rw [hz, v_cPi.2] at up dn
    have hv : vl (v.next v.all) = 7074237752028440 / 2251799813685248 := Rat.le_antisymm up dn
    obtain ⟨hb, _⟩ := at_half hA fn hv
    have hy : Wn (vl (v.next v.all) - ((A0v v : Rat) * rho + vl (LHv v v.all))) (3 / 1000000000000000) := by
      have pr := pi_rho
      have e : ((180000000000 : Int) : Rat) = 180000000000 := rfl
      rw [hv, zL, hA, e]
      obtain ⟨_, _⟩ := pr
      constructor <;> grind
    have hc : v.close v.all = true := close_yes ha.fx fn (by rw [hv, hall, v_cPi.2]; constructor <;> grind)
    obtain ⟨y, h1, h2⟩ := (round_go ha hb hy 59).1 hc
    exact ⟨1, y, h1, h2⟩
  · have hg : ∃ g : Int, Dir g ∧ 0 ≤ g * A0v v ∧ g * A0v v < 180000000000 := by
      by_cases k : 0 ≤ A0v v
      · exact ⟨1, .inl rfl, by omega, by omega⟩
      · exact ⟨-1, .inr rfl, by omega, by omega⟩
    obtain ⟨g, hg, a0, a1⟩ := hg
    have hall : v.all = radP (A0v v) := rfl
    rw [← hall] at fa ea
    have k0 : 0 ≤ ((180000000000 - g * A0v v : Int) : Rat) * rho := Rat.mul_nonneg (cast_nn (by omega)) (Rat.le_of_lt rho_pos)
    obtain ⟨⟨j, w, _⟩, no, ne⟩ := within_of hg a0 a1 fa (L := 0) (ea.of (by grind) (by grind)) (by grind) (by generalize ((180000000000 - g * A0v v : Int) : Rat) * rho = z at *; grind) ⟨by grind, by grind⟩
    have bA : Wn ((A0v v : Rat) * rho) (31418 / 10000) := (rho_int (B := 180000000000) (by omega) (by omega)).mono (arc_le (o := 180000000000) (by omega) (by omega)).2
    have ha : At v g v.all := ⟨fa, no, ⟨j, w⟩, ne, (wn_add ea bA).of (by grind) (by grind)⟩
    obtain ⟨hb, hy⟩ := next_at e a1 ha
    obtain ⟨r1, r2⟩ := round_go ha hb hy 59
    cases q : v.close v.all with
    | true => obtain ⟨y, h1, h2⟩ := r1 q; exact ⟨g, y, h1, h2⟩
    | false =>
      obtain ⟨j', w'⟩ := hb.w
      have dd : -1820000000 ≤ nearP (v.next v.all) - nearP v.all ∧ nearP (v.next v.all) - nearP v.all ≤ 1820000000 := by
        have := w.hm
        have := w'.hm
        have := w.j0
        have := w.j1
        have := w'.j0
        have := w'.j1
        rcases hg with rfl | rfl <;> omega
      obtain ⟨y, h1, h2⟩ := pair_go e a1 27 30 ⟨ha, hb, hy, dd⟩ (by omega) (by omega) (by omega)
      exact ⟨g, y, by rw [show 60 = 59 + 1 by omega, r2 q]; exact h1, h2⟩
end Go.Proofs.YtfhpnkmpjijebaaDoor

/- There and then along the geodesic: the azimuth, as floats. -/
namespace Go.Proofs.YtfhpnkmpjijebaaDoor
open Go.Fp Go.Fp.Tri
set_option maxRecDepth 20000
/-- where one comes to along the geodesic that was found -/
abbrev rvOf (v : LineV) (y : Nat) : ReachV := ⟨v.a, v.f, v.lonA, v.latA, v.outA y, v.far y⟩
structure Azi (v : LineV) (y : Nat) : Prop where
  fs1 : Fp.Fin (rvOf v y).sa1
  fc1 : Fp.Fin (rvOf v y).ca1
  et : Wn (vl (rvOf v y).ca1 * vl (v.ss y) - vl (v.t y)) (82 / 1000000000000 * vl (v.ss y))
  ew : Wn (vl (rvOf v y).sa1 * vl (v.ss y) - vl (v.w y)) (82 / 1000000000000 * vl (v.ss y))
  one : Wn (vl (rvOf v y).ca1 * vl (rvOf v y).ca1 + vl (rvOf v y).sa1 * vl (rvOf v y).sa1 - 1) (5 / 100000000000000)
  bs1 : Wn (vl (rvOf v y).sa1) (1001 / 1000)
  bc1 : Wn (vl (rvOf v y).ca1) (1001 / 1000)
  fsa : Fp.Fin (rvOf v y).sa
  esa : Wn (vl (rvOf v y).sa - vl v.cu1 * vl (rvOf v y).sa1) (1 / 1000000000000000)
  dsa : Wn (vl (rvOf v y).sa - vl (v.sa y)) (9 / 100000000000)
  fca : Fp.Fin (rvOf v y).ca
  eca : Wn (vl (rvOf v y).ca - (1 - vl (rvOf v y).sa * vl (rvOf v y).sa)) (1 / 1000000000000000)
  dca : Wn (vl (rvOf v y).ca - vl (v.ca y)) (2 / 10000000000)
set_option maxHeartbeats 4000000 in
theorem azi_ok {v : LineV} (h1 : RedOk v.f v.latA) (h2 : RedOk v.f v.latB) {y : Nat} (A : LineA v y) (B : LineB v y) : Azi v y := by
  have u1 : uu = 1 / 9007199254740992 := uu_eq
  have r0 := B.r0
  have r1 := B.r1
  have er := B.er
  have rp : 0 < vl (v.ss y) := by grind
  have r9 := sq_le_sq (show (0 : Rat) ≤ 94 / 10000 by grind) r0
  have nz : vl (v.t y) ≠ 0 ∨ vl (v.w y) ≠ 0 := by
    by_cases k : vl (v.t y) = 0
    · right
      intro k2
      rw [k, k2] at er
      have := er.2
      grind
    · exact .inl k
  obtain ⟨_, _, _, an⟩ := ang_all A.ft A.fw nz (A.bt.mono (by grind)) (A.bw.mono (by grind))
  have sum : rabs (vl (v.t y)) + rabs (vl (v.w y)) ≤ 14143 / 10000 * vl (v.ss y) := by
    refine le_of_sq (by grind) ?_
    have a1 := rabs_sqr (vl (v.t y))
    have a2 := rabs_sqr (vl (v.w y))
    have a3 := rsq_nonneg (rabs (vl (v.t y)) - rabs (vl (v.w y)))
    have := er.1
    grind
  have an' : Ang (angleP (v.w y) (v.t y)).1 (vl (v.t y)) (vl (v.w y)) (475 / 10000000000000 * vl (v.ss y)) := ⟨an.1.mono (by grind), by have := an.2; grind⟩
  obtain ⟨d1, d2⟩ := dir_of (R := vl (v.ss y)) (e := 2 / 1000000000000000) (k := 3 / 100000000000 * vl (v.ss y)) (er.of (by grind) Rat.le_refl) rp (A.bt.mono (by grind)) (A.bw.mono (by grind)) an' (by grind) (by grind)
  obtain ⟨⟨fc, e1⟩, ⟨fs, e2⟩⟩ := cis_near (v.outA y)
  have hout : v.outA y = (angleP (v.w y) (v.t y)).1 := rfl
  rw [← hout] at d1 d2
  have one := cis_one (v.outA y)
  have bC := (cis_bd (v.outA y)).re
  have bS := (cis_bd (v.outA y)).im
  have hs : (rvOf v y).sa1 = sinP (v.outA y) := fs.can
  have hc : (rvOf v y).ca1 = cosP (v.outA y) := fc.can
  have br : Wn (vl (v.ss y)) (vl (v.ss y)) := wn_pos (Rat.le_of_lt rp)
  unfold tol at e1 e2
  have et : Wn (vl (rvOf v y).ca1 * vl (v.ss y) - vl (v.t y)) (82 / 1000000000000 * vl (v.ss y)) := by
    rw [hc]
    exact (wn_add d1 (wn_mul e1 br)).of (by grind) (by grind)
  have ew : Wn (vl (rvOf v y).sa1 * vl (v.ss y) - vl (v.w y)) (82 / 1000000000000 * vl (v.ss y)) := by
    rw [hs]
    exact (wn_add d2 (wn_mul e2 br)).of (by grind) (by grind)
  have bs1 : Wn (vl (rvOf v y).sa1) (1001 / 1000) := by rw [hs]; exact (wn_add e2 bS).of (by grind) (by grind)
  have bc1 : Wn (vl (rvOf v y).ca1) (1001 / 1000) := by rw [hc]; exact (wn_add e1 bC).of (by grind) (by grind)
  have on : Wn (vl (rvOf v y).ca1 * vl (rvOf v y).ca1 + vl (rvOf v y).sa1 * vl (rvOf v y).sa1 - 1) (5 / 100000000000000) := by
    have a := diff_sq e1 (by rw [← hc]; exact bc1) (bC.mono (by grind))
    have b := diff_sq e2 (by rw [← hs]; exact bs1) (bS.mono (by grind))
    rw [hc, hs]
    exact (wn_add (wn_add a b) one).of (by grind) (by grind)
  have fs1 : Fp.Fin (rvOf v y).sa1 := by rw [hs]; exact fs
  have fc1 : Fp.Fin (rvOf v y).ca1 := by rw [hc]; exact fc
  have fcu : Fp.Fin v.cu1 := h1.fc
  have bcu : Wn (vl v.cu1) (1001 / 1000) := h1.bc
  have bcu2 : Wn (vl v.cu2) (1001 / 1000) := h2.bc
  obtain ⟨fsa, esa⟩ := mulE fcu fs1 _ (wn_mul bcu bs1) (by grind)
  have hsa : (rvOf v y).sa = fmul v.cu1 (rvOf v y).sa1 := rfl
  rw [← hsa] at fsa esa
  have esa' : Wn (vl (rvOf v y).sa - vl v.cu1 * vl (rvOf v y).sa1) (1 / 1000000000000000) := esa.mono (by rw [u1]; grind)
  have dsa : Wn (vl (rvOf v y).sa - vl (v.sa y)) (9 / 100000000000) := by
    refine wn_div rp ?_
    have a := wn_mul esa' br
    have b := wn_mul bcu ew
    have c := wn_mul bcu A.ew
    exact (wn_sub (wn_add (wn_add a b) c) B.esa).of (by grind) (by grind)
  have bsa := B.bsa
  have bsa' : Wn (vl (rvOf v y).sa) (1000001 / 1000000) := (wn_add dsa bsa).of (by grind) (by grind)
  obtain ⟨f6, g7⟩ := mulE fsa fsa _ (wn_mul bsa' bsa') (by grind)
  have sq := (wn_mul bsa' bsa').2
  have sa2 := rsq_nonneg (vl (rvOf v y).sa)
  obtain ⟨f7, g8⟩ := subE v_c1.1 f6 (11 / 10) (by rw [v_c1.2]; have := g7.1; have := g7.2; rw [u1] at *; constructor <;> grind) (by grind)
  have hca : (rvOf v y).ca = fsub c1 (fmul (rvOf v y).sa (rvOf v y).sa) := by unfold ReachV.ca; rw [c1_can]
  rw [← hca] at f7 g8
  rw [v_c1.2] at g8
  have eca : Wn (vl (rvOf v y).ca - (1 - vl (rvOf v y).sa * vl (rvOf v y).sa)) (1 / 1000000000000000) := (wn_sub g8 g7).of (by grind) (by rw [u1]; grind)
  have dca : Wn (vl (rvOf v y).ca - vl (v.ca y)) (2 / 10000000000) := by
    have a := wn_mul dsa (wn_add bsa' bsa)
    exact (wn_sub (wn_sub eca B.eca) a).of (by grind) (by grind)
  exact ⟨fs1, fc1, et, ew, on, bs1, bc1, fsa, esa', dsa, f7, eca, dca⟩
/-- the nearest angle of a number up to sixteen -/
theorem near_16 {L : Nat} (fL : Fp.Fin L) (bL : Wn (vl L) 16) : Wn (((nearP L : Int) : Rat) * rho - vl L) (9 / 1000000000000) := by
  have u1 : uu = 1 / 9007199254740992 := uu_eq
  have r0 := rho_pos
  have rl := rho_lo
  have rh := rho_hi
  unfold nearP
  rw [show Fp.can cRad = RAD from v_rad.1.can]
  have q : Wn (vl L / rho) 950000000000 := by
    refine wn_quot (c := rho) (c0 := rho) r0 Rat.le_refl ?_
    have e : vl L / rho * rho = vl L := div_mul_c (ne_of_pos r0) rfl
    rw [e]
    exact bL.mono (by grind)
  obtain ⟨f, e⟩ := divE fL v_rad.1 (by rw [v_rad.2]; exact ne_of_pos r0) 950000000000 (by rw [v_rad.2]; exact q) (by grind)
  rw [v_rad.2] at e
  have n := nearV_err f ((wn_add e q).of (by grind) (by rw [u1]; grind))
  have t := wn_mul (wn_add n e) (wn_pos (Rat.le_of_lt r0))
  refine t.of ?_ (by rw [u1]; grind)
  have e2 : vl L / rho * rho = vl L := div_mul_c (ne_of_pos r0) rfl
  generalize vl L / rho = z at *
  grind
end Go.Proofs.YtfhpnkmpjijebaaDoor

/- There and then along the geodesic: where its middle is. -/
namespace Go.Fp.Tri
open Go.Fp
set_option maxRecDepth 20000
/-- a point's square against its angle's double -/
theorem sq_ang {a : Int} {X Y E : Rat} (h : Ang a X Y E) (bP : Wn (X * (cis a).re + Y * (cis a).im) (11 / 10)) (hE : E ≤ 1 / 10000000000) :
    MB ((Cx.sc (X * X + Y * Y) ((cis a).mul (cis a))).sub ((⟨X, Y⟩ : Cx).mul ⟨X, Y⟩)) (23 / 10 * E + 5 / 1000000000000000) := by
  have N := cis_one a
  have b := cis_bd a
  obtain ⟨hZ, _⟩ := h
  have E0 := hZ.nonneg
  generalize cis a = u at *
  obtain ⟨P, hP⟩ : ∃ P, P = X * u.re + Y * u.im := ⟨_, rfl⟩
  obtain ⟨Z, hZd⟩ : ∃ Z, Z = X * u.im - Y * u.re := ⟨_, rfl⟩
  rw [← hP] at bP
  rw [← hZd] at hZ
  obtain ⟨ν, hν⟩ : ∃ ν, ν = u.re * u.re + u.im * u.im - 1 := ⟨_, rfl⟩
  rw [← hν] at N
  -- the two squares differ by twice the across times the along
  have k : MB ((u.mul u).mul ⟨2 * Z * Z, 2 * P * Z⟩) (221 / 100 * E) := by
    have m : MB (⟨2 * Z * Z, 2 * P * Z⟩ : Cx) (2202 / 1000 * E) := by
      have z2 := wn_mul (wn_mul (show Wn (2 : Rat) 2 from ⟨by grind, Rat.le_refl⟩) hZ) hZ
      have pz := wn_mul (wn_mul (show Wn (2 : Rat) 2 from ⟨by grind, Rat.le_refl⟩) bP) hZ
      have ee : E * E ≤ 1 / 10000000000 * E := Rat.mul_le_mul_of_nonneg_right hE E0
      refine MB.of (x := 1 / 1000000000 * E) (y := 22 / 10 * E) (z2.mono (by grind)) (pz.mono (by grind)) (by grind) ?_
      have := rsq_nonneg E
      grind
    exact ((b.mul b).mul m).mono (by grind)
  have e1 : X * (1 + ν) = u.re * P + u.im * Z := by rw [hν, hP, hZd]; grind
  have e2 : Y * (1 + ν) = u.im * P - u.re * Z := by rw [hν, hP, hZd]; grind
  have s2 : (X * X + Y * Y) * (1 + ν) = P * P + Z * Z := by rw [hν, hP, hZd]; grind
  have QQ : Wn (X * X + Y * Y) (13 / 10) := by
    have p2 := (wn_mul bP bP).2
    have z2 := (wn_mul hZ hZ).2
    have ee : E * E ≤ 1 / 10000000000 * (1 / 10000000000) := mul_mono E0 hE E0 hE
    have x0 := rsq_nonneg X
    have y0 := rsq_nonneg Y
    have q0 : 0 ≤ X * X + Y * Y := by grind
    have := Rat.mul_le_mul_of_nonneg_left (show 999 / 1000 ≤ 1 + ν by have := N.1; grind) q0
    exact ⟨by grind, by grind⟩
  have bX : Wn X (115 / 100) := by
    have := rsq_nonneg Y
    exact ⟨by have := le_of_sq (a := -X) (b := 115 / 100) (by grind) (by have := QQ.2; grind); grind, le_of_sq (by grind) (by have := QQ.2; grind)⟩
  have bY : Wn Y (115 / 100) := by
    have := rsq_nonneg X
    exact ⟨by have := le_of_sq (a := -Y) (b := 115 / 100) (by grind) (by have := QQ.2; grind); grind, le_of_sq (by grind) (by have := QQ.2; grind)⟩
  -- what is left is the circle's own error
  have l1 : MB (Cx.sc ν (Cx.sc (X * X + Y * Y) (u.mul u))) (2 / 1000000000000000) := ((((b.mul b).sc QQ).sc N)).mono (by grind)
  have l2 : MB (Cx.sc (2 * ν + ν * ν) ((⟨X, Y⟩ : Cx).mul ⟨X, Y⟩)) (3 / 1000000000000000) := by
    have n2 := wn_add (wn_mul (show Wn (2 : Rat) 2 from ⟨by grind, Rat.le_refl⟩) N) (wn_mul N N)
    have q : MB ((⟨X, Y⟩ : Cx).mul ⟨X, Y⟩) (13 / 10) := by
      refine ⟨by grind, ?_⟩
      have e : ((⟨X, Y⟩ : Cx).mul ⟨X, Y⟩).re * ((⟨X, Y⟩ : Cx).mul ⟨X, Y⟩).re + ((⟨X, Y⟩ : Cx).mul ⟨X, Y⟩).im * ((⟨X, Y⟩ : Cx).mul ⟨X, Y⟩).im = (X * X + Y * Y) * (X * X + Y * Y) := by simp; grind
      rw [e]
      exact (wn_mul QQ QQ).2
    exact (q.sc n2).mono (by grind)
  have re : (X * (1 + ν)) * (X * (1 + ν)) - (Y * (1 + ν)) * (Y * (1 + ν)) = (u.re * P + u.im * Z) * (u.re * P + u.im * Z) - (u.im * P - u.re * Z) * (u.im * P - u.re * Z) := by rw [e1, e2]
  have im : 2 * (X * (1 + ν)) * (Y * (1 + ν)) = 2 * (u.re * P + u.im * Z) * (u.im * P - u.re * Z) := by rw [e1, e2]
  refine (((k.sub l1).add l2).cast ?_).mono (by grind)
  refine Cx.ext' ?_ ?_
  · simp
    have : (X * X + Y * Y) * (u.re * u.re - u.im * u.im) * (1 + ν) = (P * P + Z * Z) * (u.re * u.re - u.im * u.im) := by rw [← s2]; grind
    grind
  · simp
    have : (X * X + Y * Y) * (u.re * u.im + u.im * u.re) * (1 + ν) = (P * P + Z * Z) * (u.re * u.im + u.im * u.re) := by rw [← s2]; grind
    grind
end Go.Fp.Tri
namespace Go.Proofs.YtfhpnkmpjijebaaDoor
open Go.Fp Go.Fp.Tri
set_option maxRecDepth 20000
abbrev s1I (v : LineV) (y : Nat) : Int := (angleP (rvOf v y).su (fmul (rvOf v y).cu (rvOf v y).ca1)).1
set_option maxHeartbeats 4000000 in
/-- the middle's cosine there, times the azimuth's cosine squared, is the line's -/
theorem mid_ok {v : LineV} (h1 : RedOk v.f v.latA) (h2 : RedOk v.f v.latB) {y : Nat} (A : LineA v y) (B : LineB v y) (Z : Azi v y) {n n' : Int} {η : Rat} (hn : MB ((cis n).sub ⟨vl (v.cs y), vl (v.ss y)⟩) η) (_hη : η ≤ 1 / 10)
    (d1 : -2 ≤ n' - (2 * s1I v y + n)) (d2 : n' - (2 * s1I v y + n) ≤ 2) : Wn (vl (rvOf v y).ca * vl (cosP n') - mv v y) (54 / 100000000000 + 1001 / 1000 * η) := by
  have u1 : uu = 1 / 9007199254740992 := uu_eq
  have fcu : Fp.Fin v.cu1 := h1.fc
  have fsu : Fp.Fin v.su1 := h1.fs
  have bcu : Wn (vl v.cu1) (1001 / 1000) := h1.bc
  have bsu : Wn (vl v.su1) (9948 / 10000) := h1.bs
  have bc2 : Wn (vl v.cu2) (1001 / 1000) := h2.bc
  have bs2 : Wn (vl v.su2) (9948 / 10000) := h2.bs
  have n1 : Wn (vl v.cu1 * vl v.cu1 + vl v.su1 * vl v.su1 - 1) (1 / 100000000000000) := h1.one
  obtain ⟨fX, eX⟩ := mulE fcu Z.fc1 _ (wn_mul bcu Z.bc1) (by grind)
  have eX' : Wn (vl (fmul v.cu1 (rvOf v y).ca1) - vl v.cu1 * vl (rvOf v y).ca1) (1 / 1000000000000000) := eX.mono (by rw [u1]; grind)
  have hs1 : s1I v y = (angleP v.su1 (fmul v.cu1 (rvOf v y).ca1)).1 := rfl
  generalize hXf : fmul v.cu1 (rvOf v y).ca1 = xf at *
  have bX : Wn (vl xf) (1003 / 1000) := (wn_add eX' (wn_mul bcu Z.bc1)).of (by grind) (by grind)
  have eca := Z.eca
  have esa := Z.esa
  have one := Z.one
  have dca := Z.dca
  have et := Z.et
  have bs1 := Z.bs1
  have bc1 := Z.bc1
  have brr : Wn (vl (v.ss y)) (1001 / 1000) := ⟨by have := B.r0; grind, B.r1⟩
  have bcs := A.bcs
  -- the sides' squares
  have sq : Wn (vl (rvOf v y).ca - (vl xf * vl xf + vl v.su1 * vl v.su1)) (8 / 100000000000000) := by
    have a := diff_sq esa (show Wn (vl (rvOf v y).sa) (1003 / 1000) from (wn_add (esa.mono (show _ ≤ (1 / 10000 : Rat) by grind)) (wn_mul bcu bs1)).of (by grind) (by grind)) ((wn_mul bcu bs1).mono (by grind))
    have b := diff_sq eX' bX ((wn_mul bcu bc1).mono (by grind))
    have c := wn_mul (wn_mul bcu bcu) one
    exact (wn_sub (wn_sub (wn_sub eca a) b) (wn_add c n1)).of (by grind) (by grind)
  have sum : rabs (vl xf) + rabs (vl v.su1) ≤ 14146 / 10000 := by
    refine le_of_sq (by grind) ?_
    have a1 := rabs_sqr (vl xf)
    have a2 := rabs_sqr (vl v.su1)
    have a3 := rsq_nonneg (rabs (vl xf) - rabs (vl v.su1))
    have := sq.1
    have := eca.2
    have := rsq_nonneg (vl (rvOf v y).sa)
    grind
  have ang : Ang (s1I v y) (vl xf) (vl v.su1) (37 / 1000000000000) := by
    by_cases k : vl xf ≠ 0 ∨ vl v.su1 ≠ 0
    · obtain ⟨_, _, _, an⟩ := ang_all fX fsu k (bX.mono (by grind)) (bsu.mono (by grind))
      rw [← hs1] at an
      exact ⟨an.1.mono (by grind), by have := an.2; grind⟩
    · have k1 : vl xf = 0 := by by_cases q : vl xf = 0; exact q; exact absurd (.inl q) k
      have k2 : vl v.su1 = 0 := by by_cases q : vl v.su1 = 0; exact q; exact absurd (.inr q) k
      rw [k1, k2]
      exact ⟨⟨by grind, by grind⟩, by grind⟩
  have bu := cis_bd (s1I v y)
  have nu := cis_one (s1I v y)
  have bP : Wn (vl xf * (cis (s1I v y)).re + vl v.su1 * (cis (s1I v y)).im) (11 / 10) := by
    have l := rsq_nonneg (vl xf * (cis (s1I v y)).im - vl v.su1 * (cis (s1I v y)).re)
    have q := wn_mul (show Wn (vl xf * vl xf + vl v.su1 * vl v.su1) 2 from by
      have := sq.1
      have := eca.2
      have := rsq_nonneg (vl (rvOf v y).sa)
      have := rsq_nonneg (vl xf)
      have := rsq_nonneg (vl v.su1)
      exact ⟨by grind, by grind⟩) nu
    have e : (vl xf * (cis (s1I v y)).re + vl v.su1 * (cis (s1I v y)).im) * (vl xf * (cis (s1I v y)).re + vl v.su1 * (cis (s1I v y)).im) ≤ 11 / 10 * (11 / 10) := by
      have := sq.1
      have := eca.2
      have := q.2
      have := rsq_nonneg (vl (rvOf v y).sa)
      grind
    exact ⟨by have := le_of_sq (a := -(vl xf * (cis (s1I v y)).re + vl v.su1 * (cis (s1I v y)).im)) (b := 11 / 10) (by grind) (by grind); grind, le_of_sq (by grind) e⟩
  have dbl := sq_ang ang bP (by grind)
  -- the angles
  have ad := cis_add (s1I v y) (s1I v y)
  have ad2 := cis_add (2 * s1I v y) n
  have ch := cis_chord (a := 2 * s1I v y + n) (d := n' - (2 * s1I v y + n)) (B := 2) (by omega) d2 (by omega)
  rw [show 2 * s1I v y + n + (n' - (2 * s1I v y + n)) = n' by omega] at ch
  rw [show s1I v y + s1I v y = 2 * s1I v y by omega] at ad
  have chb : ((2 : Int) : Rat) * rho * (1005 / 1000) + 3 / 1000000000000 ≤ 39 / 1000000000000 := by
    have := rho_hi
    have e : ((2 : Int) : Rat) = 2 := rfl
    rw [e]; grind
  have ch := ch.mono chb
  have bn := cis_bd n
  have b2 := cis_bd (2 * s1I v y)
  have bn' := (cis_bd n').re
  obtain ⟨⟨_, ec⟩, _⟩ := cis_near n'
  unfold tol at ec
  have bcar : Wn (vl (rvOf v y).ca) (1001 / 1000) := by
    have := sq.2
    have := sq.1
    have := rsq_nonneg (vl xf)
    have := rsq_nonneg (vl v.su1)
    have := eca.2
    have := rsq_nonneg (vl (rvOf v y).sa)
    exact ⟨by grind, by grind⟩
  have mm : mv v y = vl (v.ca y) * vl (v.cs y) - 2 * (vl v.su1 * vl v.su2) := rfl
  rw [mm]
  have bW : MB ((⟨vl xf, vl v.su1⟩ : Cx).mul ⟨vl xf, vl v.su1⟩) (10005 / 10000) := by
    refine ⟨by grind, ?_⟩
    have e : ((⟨vl xf, vl v.su1⟩ : Cx).mul ⟨vl xf, vl v.su1⟩).re * ((⟨vl xf, vl v.su1⟩ : Cx).mul ⟨vl xf, vl v.su1⟩).re + ((⟨vl xf, vl v.su1⟩ : Cx).mul ⟨vl xf, vl v.su1⟩).im * ((⟨vl xf, vl v.su1⟩ : Cx).mul ⟨vl xf, vl v.su1⟩).im = (vl xf * vl xf + vl v.su1 * vl v.su1) * (vl xf * vl xf + vl v.su1 * vl v.su1) := by simp; grind
    rw [e]
    refine sq_le_sq ?_ ?_
    · have := rsq_nonneg (vl xf); have := rsq_nonneg (vl v.su1); grind
    · have := sq.1
      have := eca.2
      have := rsq_nonneg (vl (rvOf v y).sa)
      grind
  -- all in one
  have key : MB ((Cx.sc (vl (rvOf v y).ca) (cis n')).sub (((⟨vl xf, vl v.su1⟩ : Cx).mul ⟨vl xf, vl v.su1⟩).mul ⟨vl (v.cs y), vl (v.ss y)⟩)) (14 / 100000000000 + 1001 / 1000 * η) := by
    have p1 := ch.sc bcar
    have p2 := ad2.sc bcar
    have p3 := (ad.mul bn).sc bcar
    have p4 := (((bu.mul bu).mul bn).sc sq)
    have p5 := dbl.mul bn
    have p6 := bW.mul hn
    have t := ((((p1.add p2).add p3).add p4).add p5).add p6
    have η0 := hn.1
    refine (t.cast ?_).mono (by grind)
    exact Cx.ext' (by simp; grind) (by simp; grind)
  have kr := key.re
  simp at kr
  -- the line's own
  have lo : Wn ((vl xf * vl xf - vl v.su1 * vl v.su1) * vl (v.cs y) - (vl xf * vl v.su1 + vl v.su1 * vl xf) * vl (v.ss y) - (vl (v.ca y) * vl (v.cs y) - 2 * (vl v.su1 * vl v.su2))) (39 / 100000000000) := by
    have a := wn_mul (wn_sub dca sq) bcs
    have b := wn_mul bsu (wn_mul eX' brr)
    have c := wn_mul bsu (wn_mul bcu et)
    have d := wn_mul bsu (wn_add (wn_mul bsu A.ecs) (wn_mul bcu A.et))
    have e := wn_mul bsu (wn_mul n1 bs2)
    have two : Wn (2 : Rat) 2 := ⟨by grind, Rat.le_refl⟩
    have s := wn_sub a (wn_mul two (wn_add (wn_add (wn_add b c) d) e))
    have r1 := B.r1
    refine s.of ?_ ?_
    · unfold CSv; grind
    · grind
  have η0 := hn.1
  have fin := wn_add (wn_add kr lo) (wn_mul bcar ec)
  exact fin.of (by grind) (by grind)
end Go.Proofs.YtfhpnkmpjijebaaDoor

/- How much shorter an arc is than its first guess, as a float. -/
namespace Go.Fp.Tri
open Go.Fp
set_option maxRecDepth 20000
theorem eta_110 : eta ≤ 1 / 10 ^ 110 := by
  have h : eta ≤ pw (-400) := pw_mono (by decide)
  have e : pw (-400) * (2 : Rat) ^ 400 = 1 := by
    have h := pw_add (-400) 400
    rw [show (-400 + 400 : Int) = 0 by decide, pw_zero] at h
    have h3 : pw 400 = (2 : Rat) ^ 400 := by unfold pw; exact_mod_cast Rat.zpow_natCast 2 400
    rw [h3] at h
    exact h.symm
  have k : (10 : Rat) ^ 110 ≤ 2 ^ 400 := by decide +kernel
  have p := pw_pos (-400)
  have z : (0 : Rat) < 10 ^ 110 := by decide +kernel
  have m := Rat.mul_le_mul_of_nonneg_left k (Rat.le_of_lt p)
  rw [e] at m
  refine Rat.le_trans h ?_
  refine le_of_scaled z ?_
  rw [show (10 : Rat) ^ 110 * (1 / 10 ^ 110) = 1 by decide +kernel]
  grind
theorem big100 {B : Rat} (h : B ≤ 10 ^ 100) : B ≤ pw 1000 := by
  have a : pw 400 ≤ pw 1000 := pw_mono (by decide)
  have h3 : pw 400 = (2 : Rat) ^ 400 := by unfold pw; exact_mod_cast Rat.zpow_natCast 2 400
  have k : (10 : Rat) ^ 100 ≤ 2 ^ 400 := by decide +kernel
  rw [h3] at a
  exact Rat.le_trans h (Rat.le_trans k a)
theorem big100' {B : Rat} (h : B ≤ 10 ^ 100) : B ≤ pw 1022 := Rat.le_trans (big100 h) (pw_mono (by decide))
theorem mulD {x y : Nat} {X Y : Rat} (hx : Fin x) (hy : Fin y) (bx : Wn (vl x) X) (by1 : Wn (vl y) Y) (h : X * Y ≤ 10 ^ 100) : Fin (fmul x y) ∧ Wn (vl (fmul x y) - vl x * vl y) (uu * (X * Y) + eta) :=
  fmul_err hx hy (X * Y) (wn_mul bx by1) (big100' h)
theorem addD {x y : Nat} {X Y : Rat} (hx : Fin x) (hy : Fin y) (bx : Wn (vl x) X) (by1 : Wn (vl y) Y) (h : X + Y ≤ 10 ^ 100) : Fin (fadd x y) ∧ Wn (vl (fadd x y) - (vl x + vl y)) (uu * (X + Y) + eta) :=
  fadd_err hx hy (X + Y) (wn_add bx by1) (big100' h)
theorem subD {x y : Nat} {X Y : Rat} (hx : Fin x) (hy : Fin y) (bx : Wn (vl x) X) (by1 : Wn (vl y) Y) (h : X + Y ≤ 10 ^ 100) : Fin (fsub x y) ∧ Wn (vl (fsub x y) - (vl x - vl y)) (uu * (X + Y) + eta) :=
  fsub_err hx hy (X + Y) (wn_sub bx by1) (big100' h)
end Go.Fp.Tri

/- How much shorter an arc is than its first guess, as a float, joined. -/
namespace Go.Proofs.YtfhpnkmpjijebaaDoor
open Go.Fp Go.Fp.Tri
set_option maxRecDepth 20000
theorem v_c6 : Fp.Fin (can c6) ∧ vl (can c6) = 6 := by rw [show can c6 = c6 from can_of_not (by decide +kernel)]; exact vl_const (s := false) (m := 6755399441055744) (k := 50) (by decide +kernel) (by decide +kernel)
/-- twice a square less one, of a number that may be great -/
theorem twice_gen {cm : Nat} {Q : Rat} (fcm : Fp.Fin cm) (wm : Wn (vl cm) Q) (QQ : Q * Q ≤ 10 ^ 40) : Fp.Fin (twiceP cm) ∧ Wn (vl (twiceP cm) - (2 * (vl cm * vl cm) - 1)) (uu * (8 * (Q * Q) + 8)) := by
  have u1 : uu = 1 / 9007199254740992 := uu_eq
  have eta0 := eta_pos
  have eta1 := eta_tiny
  have QQ0 := rsq_nonneg Q
  obtain ⟨f1, e1⟩ := mulD fcm fcm wm wm (by grind)
  have b1 : Wn (vl (fmul cm cm)) (1001 / 1000 * (Q * Q) + 1) := (wn_add e1 (wn_mul wm wm)).of (by grind) (by rw [u1]; grind)
  obtain ⟨f2, e2⟩ := mulD v_c2.1 f1 (by rw [v_c2.2]; exact (⟨by grind, Rat.le_refl⟩ : Wn 2 2)) b1 (by grind)
  rw [v_c2.2] at e2
  have b2 : Wn (vl (fmul (can c2) (fmul cm cm))) (2003 / 1000 * (Q * Q) + 3) := (wn_add e2 (wn_mul (show Wn (2 : Rat) 2 from ⟨by grind, Rat.le_refl⟩) b1)).of (by grind) (by rw [u1]; grind)
  obtain ⟨f3, e3⟩ := subD f2 v_cc1.1 b2 (by rw [v_cc1.2]; exact (⟨by grind, Rat.le_refl⟩ : Wn 1 1)) (by grind)
  rw [v_cc1.2] at e3
  have m := wn_mul (show Wn (2 : Rat) 2 from ⟨by grind, Rat.le_refl⟩) e1
  refine ⟨f3, ?_⟩
  unfold twiceP
  exact (wn_add e3 (wn_add e2 m)).of (by grind) (by rw [u1]; grind)
/-- four times a square less three, likewise -/
theorem four_gen {cm : Nat} {Q : Rat} (fcm : Fp.Fin cm) (wm : Wn (vl cm) Q) (QQ : Q * Q ≤ 10 ^ 40) : Fp.Fin (fsub (fmul (can c4) (fmul cm cm)) (can c3)) ∧ Wn (vl (fsub (fmul (can c4) (fmul cm cm)) (can c3)) - (4 * (vl cm * vl cm) - 3)) (uu * (14 * (Q * Q) + 16)) := by
  have u1 : uu = 1 / 9007199254740992 := uu_eq
  have eta0 := eta_pos
  have eta1 := eta_tiny
  have QQ0 := rsq_nonneg Q
  obtain ⟨f1, e1⟩ := mulD fcm fcm wm wm (by grind)
  have b1 : Wn (vl (fmul cm cm)) (1001 / 1000 * (Q * Q) + 1 / 2) := (wn_add e1 (wn_mul wm wm)).of (by grind) (by rw [u1]; grind)
  obtain ⟨f2, e2⟩ := mulD v_c4.1 f1 (by rw [v_c4.2]; exact (⟨by grind, Rat.le_refl⟩ : Wn 4 4)) b1 (by grind)
  rw [v_c4.2] at e2
  have b2 : Wn (vl (fmul (can c4) (fmul cm cm))) (4006 / 1000 * (Q * Q) + 3) := (wn_add e2 (wn_mul (show Wn (4 : Rat) 4 from ⟨by grind, Rat.le_refl⟩) b1)).of (by grind) (by rw [u1]; grind)
  obtain ⟨f3, e3⟩ := subD f2 v_c3.1 b2 (by rw [v_c3.2]; exact (⟨by grind, Rat.le_refl⟩ : Wn 3 3)) (by grind)
  rw [v_c3.2] at e3
  have m := wn_mul (show Wn (4 : Rat) 4 from ⟨by grind, Rat.le_refl⟩) e1
  refine ⟨f3, ?_⟩
  exact (wn_add e3 (wn_add e2 m)).of (by grind) (by rw [u1]; grind)
set_option maxHeartbeats 16000000 in
theorem off_gen {q cs ss cm : Nat} (fq : Fp.Fin q) (fcs : Fp.Fin cs) (fss : Fp.Fin ss) (fcm : Fp.Fin cm) (bcs : Wn (vl cs) (101 / 100)) (bss : Wn (vl ss) (101 / 100))
    (bq : rabs (vl q) ≤ 6 / 1000) (bcm : rabs (vl cm) ≤ 100000000000000000000) (bK : rabs (vl q) * rabs (vl cm) ≤ 2 / 100) :
    Fp.Fin (offP q ss cs cm) ∧
    Wn (vl (offP q ss cs cm) - vl ss * (vl q * vl cm + (vl cs * (2 * (vl q * vl cm * (vl q * vl cm)) - vl q * vl q) - vl q * vl cm * ((4 * (vl ss * vl ss) - 3) * (4 * (vl q * vl cm * (vl q * vl cm)) - 3 * (vl q * vl q))) / 6) / 4)) (1 / 10000000000000000) := by
  have u1 : uu = 1 / 9007199254740992 := uu_eq
  have eta0 := eta_pos
  have eta1 := eta_110
  obtain ⟨C, hC⟩ : ∃ C, C = rabs (vl q) := ⟨_, rfl⟩
  obtain ⟨Q, hQ⟩ : ∃ Q, Q = rabs (vl cm) := ⟨_, rfl⟩
  have wc : Wn (vl q) C := hC ▸ wn_rabs _
  have wm : Wn (vl cm) Q := hQ ▸ wn_rabs _
  rw [← hC] at bq bK
  rw [← hQ] at bcm bK
  clear hC hQ
  have C0 := wc.nonneg
  have Q0 := wm.nonneg
  have QQ : Q * Q ≤ 10 ^ 40 := by have := mul_mono Q0 bcm Q0 bcm; grind
  have QQ0 := rsq_nonneg Q
  obtain ⟨K, hK⟩ : ∃ K, K = C * Q := ⟨_, rfl⟩
  rw [← hK] at bK
  have K0 : 0 ≤ K := hK ▸ Rat.mul_nonneg C0 Q0
  obtain ⟨P, hP⟩ : ∃ P, P = Q * Q := ⟨_, rfl⟩
  have hoff : offP q ss cs cm = fmul (fmul q ss) (fadd cm (fmul (fdiv q (can c4)) (fsub (fmul cs (twiceP cm)) (fmul (fmul (fdiv q (can c6)) cm) (fmul (fsub (fmul (can c4) (fmul ss ss)) (can c3)) (fsub (fmul (can c4) (fmul cm cm)) (can c3))))))) := rfl
  obtain ⟨fT, eT⟩ := twice_gen fcm wm QQ
  obtain ⟨f4, e4⟩ := four_gen fcm wm QQ
  have b0 : Wn (2 * (vl cm * vl cm) - 1) (2 * P + 1) := by have := (wn_mul wm wm).2; have := rsq_nonneg (vl cm); rw [hP]; constructor <;> grind
  have b04 : Wn (4 * (vl cm * vl cm) - 3) (4 * P + 3) := by have := (wn_mul wm wm).2; have := rsq_nonneg (vl cm); rw [hP]; constructor <;> grind
  rw [← hP] at eT e4 QQ QQ0
  have bT : Wn (vl (twiceP cm)) (201 / 100 * P + 101 / 100) := (wn_add eT b0).of (by grind) (by rw [u1]; grind)
  -- the arc's part
  obtain ⟨fk0, ek0⟩ := mulD fcs fT bcs bT (by grind)
  have ek0' : Wn (vl (fmul cs (twiceP cm)) - vl cs * (2 * (vl cm * vl cm) - 1)) (uu * (11 * P + 11)) := by
    have m := wn_mul bcs eT
    exact (wn_add ek0 m).of (by grind) (by rw [u1]; grind)
  have bk0 : Wn (vl (fmul cs (twiceP cm))) (204 / 100 * P + 103 / 100) := (wn_add ek0' (wn_mul bcs b0)).of (by grind) (by rw [u1]; grind)
  clear ek0 eT bT
  generalize fmul cs (twiceP cm) = k0 at *
  -- the other factor
  obtain ⟨fw1, ew1⟩ := four_gen fss bss (by grind)
  have bss2 := wn_mul bss bss
  have W1 : Wn (4 * (vl ss * vl ss) - 3) (3 : Rat) := by have := bss2.2; have := rsq_nonneg (vl ss); constructor <;> grind
  have ew1' : Wn (vl (fsub (fmul (can c4) (fmul ss ss)) (can c3)) - (4 * (vl ss * vl ss) - 3)) (uu * 31) := ew1.mono (by rw [u1]; grind)
  have bw1 : Wn (vl (fsub (fmul (can c4) (fmul ss ss)) (can c3))) (31 / 10) := (wn_add ew1' W1).of (by grind) (by rw [u1]; grind)
  have bw2 : Wn (vl (fsub (fmul (can c4) (fmul cm cm)) (can c3))) (402 / 100 * P + 4) := (wn_add e4 b04).of (by grind) (by rw [u1]; grind)
  clear ew1
  generalize fsub (fmul (can c4) (fmul ss ss)) (can c3) = w1 at *
  generalize fsub (fmul (can c4) (fmul cm cm)) (can c3) = w2 at *
  obtain ⟨fw, ew⟩ := mulD fw1 f4 bw1 bw2 (by grind)
  have ew' : Wn (vl (fmul w1 w2) - (4 * (vl ss * vl ss) - 3) * (4 * (vl cm * vl cm) - 3)) (uu * (190 * P + 190)) := by
    have m1 := wn_mul bw1 e4
    have m2 := wn_mul ew1' b04
    exact (wn_add ew (wn_add m1 m2)).of (by grind) (by rw [u1]; grind)
  have bw : Wn (vl (fmul w1 w2)) (13 * P + 13) := (wn_add ew' (wn_mul W1 b04)).of (by grind) (by rw [u1]; grind)
  clear ew
  generalize fmul w1 w2 = w at *
  -- a sixth
  have z6 := v_c6
  have z4 := v_c4
  have C6 : Wn (vl q / 6) (C / 6) := by obtain ⟨_, _⟩ := wc; constructor <;> grind
  have C4 : Wn (vl q / 4) (C / 4) := by obtain ⟨_, _⟩ := wc; constructor <;> grind
  obtain ⟨fq6, eq6⟩ := fdiv_err fq z6.1 (by rw [z6.2]; grind) (C / 6) (by rw [z6.2]; exact C6) (big100 (by grind))
  obtain ⟨fq4, eq4⟩ := fdiv_err fq z4.1 (by rw [z4.2]; grind) (C / 4) (by rw [z4.2]; exact C4) (big100 (by grind))
  rw [z6.2] at eq6
  rw [z4.2] at eq4
  have bq6 : Wn (vl (fdiv q (can c6))) (17 / 100 * C + eta) := (wn_add eq6 C6).of (by grind) (by rw [u1]; grind)
  have bq4 : Wn (vl (fdiv q (can c4))) (26 / 100 * C + eta) := (wn_add eq4 C4).of (by grind) (by rw [u1]; grind)
  have eQ : eta * Q ≤ 1 / 10 ^ 89 := by have := mul_mono (Rat.le_of_lt eta0) eta1 Q0 bcm; grind
  have eQ0 := Rat.mul_nonneg (Rat.le_of_lt eta0) Q0
  have eP : eta * P ≤ 1 / 10 ^ 69 := by have := mul_mono (Rat.le_of_lt eta0) eta1 QQ0 QQ; grind
  have eP0 := Rat.mul_nonneg (Rat.le_of_lt eta0) QQ0
  have k6 : (17 / 100 * C + eta) * Q = 17 / 100 * K + eta * Q := by rw [hK]; grind
  generalize fdiv q (can c6) = q6 at *
  generalize fdiv q (can c4) = q4 at *
  obtain ⟨fk1, ek1⟩ := mulD fq6 fcm bq6 wm (by rw [k6]; grind)
  rw [k6] at ek1
  have ek1' : Wn (vl (fmul q6 cm) - vl q / 6 * vl cm) (uu * (52 / 100 * K) + 1 / 10 ^ 80) := by
    have m := wn_mul eq6 wm
    have e : (2 * uu * (C / 6) + eta) * Q = uu * (1 / 3 * K) + eta * Q := by rw [hK]; grind
    rw [e] at m
    exact (wn_add ek1 m).of (by grind) (by rw [u1]; grind)
  have b6 : Wn (vl q / 6 * vl cm) (K / 6) := (wn_mul C6 wm).mono (by rw [hK]; grind)
  have bk1 : Wn (vl (fmul q6 cm)) (17 / 100 * K + 1 / 10 ^ 79) := (wn_add ek1' b6).of (by grind) (by rw [u1]; grind)
  clear ek1 k6
  generalize fmul q6 cm = k1 at *
  have KP0 := Rat.mul_nonneg K0 QQ0
  have KP : K * P ≤ 2 / 100 * P := Rat.mul_le_mul_of_nonneg_right bK QQ0
  have k7 : (17 / 100 * K + 1 / 10 ^ 79) * (13 * P + 13) ≤ 222 / 100 * (K * P) + 222 / 100 * K + 1 / 10 ^ 37 := by grind
  obtain ⟨fk2, ek2⟩ := mulD fk1 fw bk1 bw (by grind)
  have ek2' : Wn (vl (fmul k1 w) - vl q / 6 * vl cm * ((4 * (vl ss * vl ss) - 3) * (4 * (vl cm * vl cm) - 3))) (uu * (42 * (K * P) + 42 * K) + 1 / 10 ^ 36) := by
    have m1 := wn_mul ek1' bw
    have m2 := wn_mul b6 ew'
    have g1 : (uu * (52 / 100 * K) + 1 / 10 ^ 80) * (13 * P + 13) ≤ uu * (68 / 10 * (K * P) + 68 / 10 * K) + 1 / 10 ^ 37 := by rw [u1]; grind
    have g2 : K / 6 * (uu * (190 * P + 190)) = uu * (190 / 6 * (K * P) + 190 / 6 * K) := by grind
    rw [g2] at m2
    refine (wn_add ek2 (wn_add (m1.mono g1) m2)).of (by grind) ?_
    generalize (17 / 100 * K + 1 / 10 ^ 79) * (13 * P + 13) = y at *
    rw [u1]
    grind
  have b2 : Wn (vl q / 6 * vl cm * ((4 * (vl ss * vl ss) - 3) * (4 * (vl cm * vl cm) - 3))) (2 * (K * P) + 3 / 2 * K) := (wn_mul b6 (wn_mul W1 b04)).mono (by grind)
  have bk2 : Wn (vl (fmul k1 w)) (21 / 10 * (K * P) + 16 / 10 * K + 1 / 10 ^ 35) := (wn_add ek2' b2).of (by grind) (by rw [u1]; grind)
  clear ek2 k7 ek1' bk1 ew' bw
  generalize fmul k1 w = k2 at *
  obtain ⟨fk3, ek3⟩ := subD fk0 fk2 bk0 bk2 (by grind)
  have ek3' : Wn (vl (fsub k0 k2) - (vl cs * (2 * (vl cm * vl cm) - 1) - vl q / 6 * vl cm * ((4 * (vl ss * vl ss) - 3) * (4 * (vl cm * vl cm) - 3)))) (uu * (15 * P + 15)) :=
    (wn_add ek3 (wn_sub ek0' ek2')).of (by grind) (by rw [u1]; grind)
  have b3 := wn_sub (wn_mul bcs b0) b2
  have bk3 : Wn (vl (fsub k0 k2)) (21 / 10 * P + 12 / 10) := (wn_add ek3' b3).of (by grind) (by rw [u1]; grind)
  clear ek3 ek0' ek2' bk0 bk2 b2
  have b3' : Wn (vl cs * (2 * (vl cm * vl cm) - 1) - vl q / 6 * vl cm * ((4 * (vl ss * vl ss) - 3) * (4 * (vl cm * vl cm) - 3))) (21 / 10 * P + 12 / 10) := b3.mono (by grind)
  clear b3 b0 b04
  obtain ⟨V, hV⟩ : ∃ V, V = vl cs * (2 * (vl cm * vl cm) - 1) - vl q / 6 * vl cm * ((4 * (vl ss * vl ss) - 3) * (4 * (vl cm * vl cm) - 3)) := ⟨_, rfl⟩
  rw [← hV] at ek3' b3'
  generalize fsub k0 k2 = k3 at *
  have CP0 := Rat.mul_nonneg C0 QQ0
  have CP : C * P ≤ 6 / 1000 * P := Rat.mul_le_mul_of_nonneg_right bq QQ0
  obtain ⟨fk4, ek4⟩ := mulD fq4 fk3 bq4 bk3 (by grind)
  have ek4' : Wn (vl (fmul q4 k3) - vl q / 4 * V) (uu * (6 * (C * P) + 6 * C) + 1 / 10 ^ 60) := by
    have m1 := wn_mul eq4 bk3
    have m2 := wn_mul C4 ek3'
    have g0 : (26 / 100 * C + eta) * (21 / 10 * P + 12 / 10) = 26 / 100 * (21 / 10) * (C * P) + 26 / 100 * (12 / 10) * C + 21 / 10 * (eta * P) + 12 / 10 * eta := by grind
    have g1 : (2 * uu * (C / 4) + eta) * (21 / 10 * P + 12 / 10) = uu * (105 / 100 * (C * P) + 6 / 10 * C) + 21 / 10 * (eta * P) + 12 / 10 * eta := by grind
    have g2 : C / 4 * (uu * (15 * P + 15)) = uu * (15 / 4 * (C * P) + 15 / 4 * C) := by grind
    rw [g1] at m1
    rw [g2] at m2
    rw [g0] at ek4
    refine (wn_add ek4 (wn_add m1 m2)).of (by grind) ?_
    rw [u1]
    grind
  have bk4 : Wn (vl (fmul q4 k3)) (53 / 100 * (C * P) + 31 / 100 * C + 1 / 10 ^ 59) := by
    refine (wn_add ek4' (wn_mul C4 b3')).of (by grind) ?_
    have : C / 4 * (21 / 10 * P + 12 / 10) = 21 / 40 * (C * P) + 12 / 40 * C := by grind
    rw [this, u1]
    grind
  clear ek4 bq4 eq4 bk3 ek3'
  generalize fmul q4 k3 = k4 at *
  obtain ⟨fk5, ek5⟩ := addD fcm fk4 wm bk4 (by grind)
  have ek5' : Wn (vl (fadd cm k4) - (vl cm + vl q / 4 * V)) (uu * (Q + 7 * (C * P) + 7 * C) + 1 / 10 ^ 58) := (wn_add ek5 ek4').of (by grind) (by rw [u1]; grind)
  have bk5 : Wn (vl (fadd cm k4)) (1001 / 1000 * Q + 54 / 100 * (C * P) + 32 / 100 * C + 1 / 10 ^ 58) := (wn_add ek5 (wn_add wm bk4)).of (by grind) (by rw [u1]; grind)
  clear ek5 bk4 ek4'
  generalize fadd cm k4 = k5 at *
  obtain ⟨fk6, ek6⟩ := mulD fq fss wc bss (by grind)
  have bk6 : Wn (vl (fmul q ss)) (102 / 100 * C + eta) := (wn_add ek6 (wn_mul wc bss)).of (by grind) (by rw [u1]; grind)
  have CC := mul_mono C0 bq C0 bq
  have KK := mul_mono K0 bK K0 bK
  have CCP : C * (C * P) = K * K := by rw [hK, hP]; grind
  have x1 : C * (1001 / 1000 * Q + 54 / 100 * (C * P) + 32 / 100 * C + 1 / 10 ^ 58) ≤ 203 / 10000 := by
    have e : C * (1001 / 1000 * Q + 54 / 100 * (C * P) + 32 / 100 * C + 1 / 10 ^ 58) = 1001 / 1000 * K + 54 / 100 * (K * K) + 32 / 100 * (C * C) + 1 / 10 ^ 58 * C := by rw [← CCP, hK]; grind
    rw [e]
    grind
  have eCP : eta * (C * P) ≤ 1 / 10 ^ 69 := by have := mul_mono (Rat.le_of_lt eta0) Rat.le_refl CP0 (show C * P ≤ P by grind); grind
  have eCP0 := Rat.mul_nonneg (Rat.le_of_lt eta0) CP0
  have eC0 := Rat.mul_nonneg (Rat.le_of_lt eta0) C0
  have eC : eta * C ≤ eta := by have := mul_mono (Rat.le_of_lt eta0) Rat.le_refl C0 (show C ≤ 1 by grind); grind
  have x2 : eta * (1001 / 1000 * Q + 54 / 100 * (C * P) + 32 / 100 * C + 1 / 10 ^ 58) ≤ 1 / 10 ^ 60 := by
    have e : eta * (1001 / 1000 * Q + 54 / 100 * (C * P) + 32 / 100 * C + 1 / 10 ^ 58) = 1001 / 1000 * (eta * Q) + 54 / 100 * (eta * (C * P)) + 32 / 100 * (eta * C) + 1 / 10 ^ 58 * eta := by grind
    rw [e]
    grind
  have x3 : C * (uu * (Q + 7 * (C * P) + 7 * C) + 1 / 10 ^ 58) ≤ uu * (24 / 1000) + 1 / 10 ^ 58 := by
    have e : C * (uu * (Q + 7 * (C * P) + 7 * C) + 1 / 10 ^ 58) = uu * (K + 7 * (K * K) + 7 * (C * C)) + C * (1 / 10 ^ 58) := by rw [← CCP, hK]; grind
    rw [e, u1]
    grind
  obtain ⟨B5, hB5⟩ : ∃ B5, B5 = 1001 / 1000 * Q + 54 / 100 * (C * P) + 32 / 100 * C + 1 / 10 ^ 58 := ⟨_, rfl⟩
  rw [← hB5] at bk5 x1 x2
  have x4 : (102 / 100 * C + eta) * B5 ≤ 21 / 1000 := by
    have : (102 / 100 * C + eta) * B5 = 102 / 100 * (C * B5) + eta * B5 := by grind
    rw [this]; grind
  obtain ⟨fk7, ek7⟩ := mulD fk6 fk5 bk6 bk5 (by grind)
  rw [hoff]
  refine ⟨fk7, ?_⟩
  have m1 := wn_mul ek6 bk5
  have m2 := wn_mul (wn_mul wc bss) ek5'
  have g1 : (uu * (C * (101 / 100)) + eta) * B5 = uu * (101 / 100) * (C * B5) + eta * B5 := by grind
  have g2 : C * (101 / 100) * (uu * (Q + 7 * (C * P) + 7 * C) + 1 / 10 ^ 58) = 101 / 100 * (C * (uu * (Q + 7 * (C * P) + 7 * C) + 1 / 10 ^ 58)) := by grind
  rw [g1] at m1
  rw [g2] at m2
  have tot := wn_add ek7 (wn_add m1 m2)
  refine tot.of ?_ ?_
  · have e : vl ss * (vl q * vl cm + (vl cs * (2 * (vl q * vl cm * (vl q * vl cm)) - vl q * vl q) - vl q * vl cm * ((4 * (vl ss * vl ss) - 3) * (4 * (vl q * vl cm * (vl q * vl cm)) - 3 * (vl q * vl q))) / 6) / 4) = vl q * vl ss * (vl cm + vl q / 4 * V) := by rw [hV]; grind
    rw [e]
    grind
  · generalize C * (uu * (Q + 7 * (C * P) + 7 * C) + 1 / 10 ^ 58) = y1 at *
    generalize (102 / 100 * C + eta) * B5 = y2 at *
    generalize C * B5 = y3 at *
    generalize eta * B5 = y4 at *
    clear tot m1 m2 g1 g2 ek7
    rw [u1] at *
    grind
end Go.Proofs.YtfhpnkmpjijebaaDoor
