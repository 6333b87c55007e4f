/- The strip there and back: the place that comes back of a point a little off. -/
import Derived.Test.YtcppgbhjbmfldaaDoorZV
namespace Go.Proofs.YtcppgbhjbmfldaaDoor
open Go.Fp Go.Fp.Tri Go.RowKit
set_option maxRecDepth 20000
theorem bisW {g : Int → Nat} {X : Nat} {lo hi r : Int} (h : LatIs g X lo hi r) (hlt : lo < hi) : (leW (g r) X = true ∨ r = lo) ∧ (leW (g (r + 1)) X = false ∨ r + 1 = hi) := by
  induction h with
  | done h => exact ⟨.inr rfl, .inr (by omega)⟩
  | low h hl _ ih =>
    obtain ⟨a, b⟩ := ih (by omega)
    refine ⟨.inl ?_, b⟩
    rcases a with a | a
    · exact a
    · rw [a]; exact hl
  | high h hl _ ih =>
    obtain ⟨a, b⟩ := ih (by omega)
    refine ⟨a, ?_⟩
    rcases b with b | b
    · exact .inl b
    · rw [b]; exact .inl hl
theorem bisW_link {g g' : Int → Nat} {X : Nat} {r : Int} (h : LatOk g X r) (hg : ∀ m, -89000000000 ≤ m → m ≤ 89000000000 → g m = g' m) :
    -89000000000 ≤ r ∧ r ≤ 89000000000 ∧ (fle (g' r) X = true ∨ r = -89000000000) ∧ (fle (g' (r + 1)) X = false ∨ r = 89000000000) := by
  obtain ⟨b1, b2⟩ := LatIs.bounds h (by omega)
  obtain ⟨h1, h2⟩ := bisW h (by omega)
  refine ⟨b1, by omega, ?_, ?_⟩
  · rw [← hg r b1 (by omega)]; exact h1
  · by_cases hr : r = 89000000000
    · exact .inr hr
    · rw [← hg (r + 1) (by omega) (by omega)]
      rcases h2 with h2 | h2
      · exact .inl h2
      · omega
theorem iso_linkW (f : Nat) {m : Int} (h1 : -89000000000 ≤ m) (h2 : m ≤ 89000000000) : isoP f m = isoW (fsqrt (eccP f)) (sinP m) := by
  obtain ⟨fs, _⟩ := sin_in h1 h2
  unfold isoP isoW lnR ratW
  rw [fs.can, v_one.1.can, v_two.1.can]
theorem zIm_eq (f : Nat) (u : Int) (V I0 : Nat) : ∀ k, zIm tabA cA4 f u V I0 k = aIm f u V I0 k
  | 0 => rfl
  | k + 1 => by simp only [zIm, aIm, zIm_eq f u V I0 k]
theorem zRe_eq (f : Nat) (u : Int) (V I0 : Nat) : ∀ k, zRe tabA cA4 f u V I0 k = aRe f u V I0 k
  | 0 => rfl
  | k + 1 => by simp only [zRe, aRe, zRe_eq f u V I0 k]
theorem mW_eq {k : Nat} (hk : k < 4) {u : Int} (h1 : -1000000000000 ≤ u) (h2 : u ≤ 1000000000000) : mW k u = 2 * ((k : Int) + 1) * u := by
  refine IntWalk.i64_in _ ?_
  rcases k with _ | _ | _ | _ | k
  · constructor <;> omega
  · constructor <;> (simp; omega)
  · constructor <;> (simp; omega)
  · constructor <;> (simp; omega)
  · omega
theorem bIm_eq {f : Nat} {u : Int} (h1 : -1000000000000 ≤ u) (h2 : u ≤ 1000000000000) (V I0 : Nat) : ∀ k, k ≤ 4 → bIm f u V I0 k = cIm f u V I0 k
  | 0, _ => rfl
  | k + 1, hk => by simp only [bIm, cIm, bIm_eq h1 h2 V I0 k (by omega), mW_eq (show k < 4 by omega) h1 h2]
theorem bRe_eq {f : Nat} {u : Int} (h1 : -1000000000000 ≤ u) (h2 : u ≤ 1000000000000) (V I0 : Nat) : ∀ k, k ≤ 4 → bRe f u V I0 k = cRe f u V I0 k
  | 0, _ => rfl
  | k + 1, hk => by simp only [bRe, cRe, bRe_eq h1 h2 V I0 k (by omega), mW_eq (show k < 4 by omega) h1 h2]
theorem v_four : Fp.Fin 4616189618054758400 ∧ vl 4616189618054758400 = 4 := vl_const (s := false) (m := 4503599627370496) (k := 50) (by decide +kernel) (by decide +kernel)
theorem v_64 : Fp.Fin 4634204016564240384 ∧ vl 4634204016564240384 = 64 := vl_const (s := false) (m := 4503599627370496) (k := 46) (by decide +kernel) (by decide +kernel)
/-- the radius on paper -/
theorem rS_near {a f sc high : Nat} (g : Snd a f high) (fsc : Fp.Fin sc) (s1 : 99 / 1000 ≤ vl sc) (s2 : vl sc ≤ 10) : Fp.Fin (rS a f sc) ∧ 10000 ≤ vl (rS a f sc) ∧ vl (rS a f sc) ≤ 1000000000 := by
  have u1 : uu = 1 / 9007199254740992 := uu_eq
  obtain ⟨fa, a1, a2, ff, f1, f2, _⟩ := g
  have hn := nS_near ff f1 f2
  obtain ⟨b0, b1, _⟩ := nQ_bd f1 f2
  have bn : Wn (nQ f) (6 / 1000) := ⟨by grind, by grind⟩
  obtain ⟨p2, p3, p4⟩ := small_pw bn
  have h2 : Nr (n2S f) (nQ f * nQ f) (2 / 10000000000000000) := times_small hn hn bn bn
  have h4 : Nr (n4S f) (nQ f * nQ f * (nQ f * nQ f)) (2 / 10000000000000000) := times_small h2 h2 p2 p2
  have w1 : Wn (vl (nS f)) (7 / 1000) := (wn_add hn.2 bn).of (by grind) (by grind)
  have w2 : Wn (vl (n2S f)) (7 / 1000) := (wn_add h2.2 p2).of (by grind) (by grind)
  have w4 : Wn (vl (n4S f)) (7 / 1000) := (wn_add h4.2 p4).of (by grind) (by grind)
  unfold rS radS
  rw [fa.can, fsc.can, v_four.1.can, v_64.1.can, show Fp.can 4607182418800017408 = Fp.cOne from v_one.1.can]
  obtain ⟨g1, e1⟩ := addE v_one.1 hn.1 2 (by rw [v_one.2]; obtain ⟨_, _⟩ := w1; constructor <;> grind) (by grind)
  rw [v_one.2] at e1
  obtain ⟨x1, x2⟩ := e1
  obtain ⟨y1, y2⟩ := w1
  rw [u1] at x1 x2
  have d0 : 99 / 100 ≤ vl (fadd Fp.cOne (nS f)) := by grind
  have d1 : vl (fadd Fp.cOne (nS f)) ≤ 101 / 100 := by grind
  have q : Wn (vl a / vl (fadd Fp.cOne (nS f)) - vl a) (vl a * (2 / 100)) := by
    refine wn_quot (c := vl (fadd Fp.cOne (nS f))) (c0 := 99 / 100) (by grind) d0 ?_
    have e2 : (vl a / vl (fadd Fp.cOne (nS f)) - vl a) * vl (fadd Fp.cOne (nS f)) = vl a / vl (fadd Fp.cOne (nS f)) * vl (fadd Fp.cOne (nS f)) - vl a * vl (fadd Fp.cOne (nS f)) := by grind
    rw [e2, div_mul_c (ne_of_pos (by grind)) rfl]
    have := wn_mul (wn_pos (show 0 ≤ vl a by grind)) (show Wn (1 - vl (fadd Fp.cOne (nS f))) (1 / 100) from ⟨by grind, by grind⟩)
    refine this.of (by grind) (by grind)
  obtain ⟨g2, e2⟩ := divE fa g1 (ne_of_pos (by grind)) 11000000 (by obtain ⟨_, _⟩ := q; constructor <;> grind) (by grind)
  have A : 900000 ≤ vl (fdiv a (fadd Fp.cOne (nS f))) ∧ vl (fdiv a (fadd Fp.cOne (nS f))) ≤ 10500000 := by
    obtain ⟨_, _⟩ := q
    obtain ⟨_, _⟩ := e2
    rw [u1] at *
    constructor <;> grind
  obtain ⟨g3, e3⟩ := divE h2.1 v_four.1 (by rw [v_four.2]; grind) 1 (by rw [v_four.2]; obtain ⟨_, _⟩ := w2; constructor <;> grind) (by grind)
  obtain ⟨g4, e4⟩ := divE h4.1 v_64.1 (by rw [v_64.2]; grind) 1 (by rw [v_64.2]; obtain ⟨_, _⟩ := w4; constructor <;> grind) (by grind)
  rw [v_four.2] at e3
  rw [v_64.2] at e4
  obtain ⟨z1, z2⟩ := e3
  obtain ⟨z3, z4⟩ := e4
  obtain ⟨y3, y4⟩ := w2
  obtain ⟨y5, y6⟩ := w4
  rw [u1] at z1 z2 z3 z4
  obtain ⟨g5, e5⟩ := addE v_one.1 g3 2 (by rw [v_one.2]; constructor <;> grind) (by grind)
  rw [v_one.2] at e5
  obtain ⟨t1, t2⟩ := e5
  rw [u1] at t1 t2
  obtain ⟨g6, e6⟩ := addE g5 g4 2 (by constructor <;> grind) (by grind)
  obtain ⟨t3, t4⟩ := e6
  rw [u1] at t3 t4
  have B : 99 / 100 ≤ vl (fadd (fadd Fp.cOne (fdiv (n2S f) 4616189618054758400)) (fdiv (n4S f) 4634204016564240384)) ∧ vl (fadd (fadd Fp.cOne (fdiv (n2S f) 4616189618054758400)) (fdiv (n4S f) 4634204016564240384)) ≤ 101 / 100 := by constructor <;> grind
  have AB := mul_mono (show 0 ≤ vl (fdiv a (fadd Fp.cOne (nS f))) by grind) A.2 (show 0 ≤ vl (fadd (fadd Fp.cOne (fdiv (n2S f) 4616189618054758400)) (fdiv (n4S f) 4634204016564240384)) by grind) B.2
  have AB0 := mul_mono (show (0 : Rat) ≤ 900000 by grind) A.1 (show (0 : Rat) ≤ 99 / 100 by grind) B.1
  obtain ⟨g7, e7⟩ := mulE g2 g6 11000000 (by constructor <;> grind) (by grind)
  obtain ⟨t5, t6⟩ := e7
  rw [u1] at t5 t6
  generalize fmul (fdiv a (fadd Fp.cOne (nS f))) (fadd (fadd Fp.cOne (fdiv (n2S f) 4616189618054758400)) (fdiv (n4S f) 4634204016564240384)) = Q at *
  have Q0 : 880000 ≤ vl Q := by grind
  have Q1 : vl Q ≤ 10700000 := by grind
  have m1 := mul_mono (show (0 : Rat) ≤ 880000 by grind) Q0 (show (0 : Rat) ≤ 99 / 1000 by grind) s1
  have m2 := mul_mono (show 0 ≤ vl Q by grind) Q1 (show 0 ≤ vl sc by grind) s2
  obtain ⟨g8, e8⟩ := mulE g7 fsc 200000000 (by constructor <;> grind) (by grind)
  obtain ⟨t7, t8⟩ := e8
  rw [u1] at t7 t8
  exact ⟨g8, by grind, by grind⟩
end Go.Proofs.YtcppgbhjbmfldaaDoor

/- The strip there and back, joined: of a point that is a little off, the place that comes back is a little off. -/
namespace Go.Proofs.YtcppgbhjbmfldaaDoor
open Go.Fp Go.Fp.Tri Go.RowKit
set_option maxRecDepth 20000
theorem apart_is (mid lon a : Int) : apartP (signP (normP mid + a)) lon = signP (a - dS mid lon) := by
  have h : normP (normP (signP (normP mid + a)) - normP lon) = normP (a - dS mid lon) := by
    unfold dS signP normP
    split <;> omega
  unfold apartP
  have key : ∀ x y : Int, normP x = normP y → signP x = signP y := by
    intro x y hxy
    unfold signP
    rw [hxy]
  exact key _ _ h
theorem in_strip {R x y : Nat} (fR : Fp.Fin R) (R0 : 10000 ≤ vl R) (R1 : vl R ≤ 1000000000) (fx : Fp.Fin x) (fy : Fp.Fin y) (bx : Wn (vl x) (vl R * (6 / 10))) (bY : Wn (vl y) (vl R * (159 / 100))) : inS R x y = true := by
  have u1 : uu = 1 / 9007199254740992 := uu_eq
  obtain ⟨fn, vn⟩ := vl_neg R fR
  have en : negC R = Op.negFloat .f64 R := by unfold negC; rw [fn.can]
  have v16 : Fp.Fin k16 ∧ vl k16 = 7205759403792794 / 4503599627370496 := vl_const (s := false) (m := 7205759403792794) (k := 52) (by decide +kernel) (by decide +kernel)
  obtain ⟨f2, e2⟩ := mulE v16.1 fR (vl R * (17 / 10)) (by rw [v16.2]; constructor <;> grind) (by grind)
  rw [v16.2] at e2
  obtain ⟨a1, a2⟩ := e2
  rw [u1] at a1 a2
  obtain ⟨fn2, vn2⟩ := vl_neg (fmul k16 R) f2
  have en2 : negC (fmul k16 R) = Op.negFloat .f64 (fmul k16 R) := by unfold negC; rw [fn2.can]
  obtain ⟨x1, x2⟩ := bx
  obtain ⟨y1, y2⟩ := bY
  unfold inS inX1 inX2 inY1 inY2
  rw [en, en2]
  rw [(fge_vl fx fn).2 (by rw [vn]; grind), (fle_vl fx fR).2 (by grind), (fge_vl fy fn2).2 (by rw [vn2]; grind), (fle_vl fy f2).2 (by grind)]
  rfl
/-- what is asked of place, strip and numbers -/
structure Asked (a f sc high : Nat) (mid lon lat D0 G : Int) (N Kp q B2 B1 B3 B4 m d1 d2 d3 d4 em M δ S0 C0 x0 r0 K W B : Rat) : Prop where
  hr : Reg N Kp q B2 B1 B3 B4 m d1 d2 d3 d4 em M
  g : Snd a f high
  hn : Wn (nQ f) N
  fsc : Fp.Fin sc
  s1 : 99 / 1000 ≤ vl sc
  s2 : vl sc ≤ 10
  l1 : -84000000000 ≤ lat
  l2 : lat ≤ 84000000000
  t1 : -D0 ≤ signP (dS mid lon)
  t2 : signP (dS mid lon) ≤ D0
  hD : D0 < 45000000000
  hS : S ((D0 : Rat) * rho) ≤ S0
  hC : C0 ≤ C ((D0 : Rat) * rho)
  c0 : 861 / 1000 ≤ C0
  s0 : 0 ≤ S0
  s5 : S0 ≤ 505 / 1000
  hx0 : S0 + 2 / 100000000000 ≤ x0 * (C0 - 1 / 10000000000000)
  x1 : x0 ≤ 5774 / 10000
  hr0 : (1 + x0 * x0) * (1 + 1 / 100000000000000) ≤ r0 * r0
  r00 : 0 ≤ r0
  x00 : 0 ≤ x0
  k1 : 1 ≤ x0 + r0
  k2 : x0 + r0 ≤ 2
  hK : (x0 + r0) * (x0 + r0) * (1 + 1 / 100000000) ≤ K
  hK2 : K ≤ 30002 / 10000
  hKp : K * (1000002 / 1000000) ≤ Kp
  d0 : 0 ≤ δ
  dm : δ ≤ 1 / 10000000
  hε : 15 / 100000000000 + 3 * δ ≤ em
  hM : M ≤ 1 / 1000
  hW : 71 / 100 * (15 / 100000000000 + 3 * δ + M + 2 / 100000000000) + 1 / 100000000000 ≤ W
  hW2 : W ≤ 2 / 1000000
  G0 : 1900 ≤ G
  G1 : G ≤ 1000000
  hE : (104 / 100 * W + 15 / 1000000000) * (1 + 1 / 1000000) < 64 / 100 * ((G : Rat) * rho)
  hB : 10002 / 10000 * (1001 / 1000 * W + 1 / 100000000) + 2 / 10000000000 ≤ B * rho
section
variable {a f sc high : Nat} {mid lon lat D0 G : Int} {N Kp q B2 B1 B3 B4 m d1 d2 d3 d4 em M δ S0 C0 x0 r0 K W B : Rat}
/-- the place on the ball along the meridian -/
theorem Asked.look (h : Asked a f sc high mid lon lat D0 G N Kp q B2 B1 B3 B4 m d1 d2 d3 d4 em M δ S0 C0 x0 r0 K W B) : ∃ T r, Look (isoP f lat) (cosP (dS mid lon)) (sinP (dS mid lon)) T r ∧ Wn (vl (lX (isoP f lat) (cosP (dS mid lon)) (sinP (dS mid lon)))) x0 ∧ Wave (lU (isoP f lat) (cosP (dS mid lon))) (vl (lV (isoP f lat) (cosP (dS mid lon)) (sinP (dS mid lon)))) K ∧
    uS f lat (dS mid lon) = lU (isoP f lat) (cosP (dS mid lon)) ∧ vS f lat (dS mid lon) = lV (isoP f lat) (cosP (dS mid lon)) (sinP (dS mid lon)) ∧
    Wn (vl (cosP (dS mid lon)) * vl (cosP (dS mid lon)) + vl (sinP (dS mid lon)) * vl (sinP (dS mid lon)) - 1) (1 / 10000000000000) ∧ 86 / 100 ≤ vl (cosP (dS mid lon)) ∧ Wn (vl (sinP (dS mid lon))) (51 / 100) ∧ Wn (vl (isoP f lat)) 3 := by
  have l1 := h.l1
  have l2 := h.l2
  have he : EccOk (fsqrt (eccP f)) := (ecc_sqrt (by obtain ⟨x, y, z⟩ := ecc_ok h.g; exact ⟨x, y, z⟩)).1
  have hi := iso_linkW f (m := lat) (by omega) (by omega)
  obtain ⟨fsl, bsl⟩ := sin_in84 (m := lat) (by omega) (by omega)
  obtain ⟨fi, _, _⟩ := iso_by he fsl bsl
  have b3 := iso_84 he fsl bsl
  rw [← hi] at fi b3
  obtain ⟨fc, fs, hg, hc, hs⟩ := dir_near h.t1 h.t2 h.hD h.hS h.hC
  have c0 := h.c0
  have s5 := h.s5
  obtain ⟨T, r, lk⟩ := look_some fi b3 fc fs hg (by grind) (hs.mono (by grind))
  obtain ⟨bX, wv⟩ := wave_of lk (S0 := S0 + 2 / 100000000000000) (C0 := C0 - 2 / 100000000000000) hs hc (by grind) (by have := h.hx0; have := h.x00; grind) h.x1 h.hr0 h.r00 h.x00 h.k1 h.k2 h.hK h.hK2
  refine ⟨T, r, lk, bX, wv, ?_, ?_, hg, by grind, hs.mono (by grind), b3⟩
  · unfold uS tS lU angS
    rw [fc.can]
  · unfold vS tS lV lX lR
    rw [fc.can, fs.can]
/-- where a place is on the strip -/
theorem Asked.fin (h : Asked a f sc high mid lon lat D0 G N Kp q B2 B1 B3 B4 m d1 d2 d3 d4 em M δ S0 C0 x0 r0 K W B) : Fp.Fin (stripX a f sc (uS f lat (dS mid lon)) (vS f lat (dS mid lon))) ∧ Fp.Fin (stripY a f sc (uS f lat (dS mid lon)) (vS f lat (dS mid lon))) := by
  obtain ⟨T, r, lk, bX, wv, eu, ev, _, _, _, _⟩ := h.look
  obtain ⟨_, _, _, ff, f1, f2, _⟩ := h.g
  obtain ⟨fR, R0, R1⟩ := rS_near h.g h.fsc h.s1 h.s2
  obtain ⟨fa, fb, _, ba, bb⟩ := there h.hr ff f1 f2 h.hn wv h.hKp lk.fV rfl lk.u1 lk.u2
  rw [eu, ev]
  unfold stripX stripY
  rw [zIm_eq, zRe_eq]
  exact ⟨(mul_R fR fb R0 R1 (bb.mono (by grind))).1, (mul_R fR fa R0 R1 (ba.mono (by grind))).1⟩
theorem Asked.back (h : Asked a f sc high mid lon lat D0 G N Kp q B2 B1 B3 B4 m d1 d2 d3 d4 em M δ S0 C0 x0 r0 K W B) {x y : Nat} (fx : Fp.Fin x) (fy : Fp.Fin y)
    (hx : Wn (vl x - vl (stripX a f sc (uS f lat (dS mid lon)) (vS f lat (dS mid lon)))) (vl (rS a f sc) * δ)) (hy : Wn (vl y - vl (stripY a f sc (uS f lat (dS mid lon)) (vS f lat (dS mid lon)))) (vl (rS a f sc) * δ)) :
    inS (rS a f sc) x y = true ∧ (∀ r, LatOk (isoP f) (fT a f sc x y) r → r - lat ≤ G + 50 ∧ lat - r ≤ G + 50) ∧
    (((if apartP (fLon a f sc mid x y) lon < 0 then -apartP (fLon a f sc mid x y) lon else apartP (fLon a f sc mid x y) lon : Int) : Rat)) * vl (cosP lat) ≤ B := by
  obtain ⟨T, r, lk, bX, wv, eu, ev, hg, g0, bs, b3⟩ := h.look
  obtain ⟨_, _, _, ff, f1, f2, _⟩ := h.g
  obtain ⟨fR, R0, R1⟩ := rS_near h.g h.fsc h.s1 h.s2
  have hx' : Wn (vl x - vl (fmul (rS a f sc) (aIm f (lU (isoP f lat) (cosP (dS mid lon))) (lV (isoP f lat) (cosP (dS mid lon)) (sinP (dS mid lon))) (lV (isoP f lat) (cosP (dS mid lon)) (sinP (dS mid lon))) 4))) (vl (rS a f sc) * δ) := by
    rw [eu, ev] at hx
    unfold stripX at hx
    rw [zIm_eq] at hx
    exact hx
  have hy' : Wn (vl y - vl (fmul (rS a f sc) (aRe f (lU (isoP f lat) (cosP (dS mid lon))) (lV (isoP f lat) (cosP (dS mid lon)) (sinP (dS mid lon))) (r0W (lU (isoP f lat) (cosP (dS mid lon)))) 4))) (vl (rS a f sc) * δ) := by
    rw [eu, ev] at hy
    unfold stripY at hy
    rw [zRe_eq] at hy
    exact hy
  obtain ⟨fV1, fR1, u1, u2, bx, bY, p, q', fI, fC, hp, hq, hpq⟩ := strip_core h.hr ff f1 f2 h.hn wv h.hKp lk.fV rfl lk.u1 lk.u2 fR R0 R1 fx fy hx' hy' h.d0 h.dm h.hε h.hM
  have hW := h.hW
  have hW2 := h.hW2
  have hWp : p + q' ≤ W := by grind
  -- what From reckons
  have eZi : fZi a f sc x y = cIm f (nearP (fdiv y (rS a f sc))) (fdiv x (rS a f sc)) (fdiv x (rS a f sc)) 4 := by
    unfold fZi
    rw [fx.can, fy.can, bIm_eq u1 u2 _ _ 4 (by omega)]
  have eZr : fZr a f sc x y = cRe f (nearP (fdiv y (rS a f sc))) (fdiv x (rS a f sc)) (fdiv y (rS a f sc)) 4 := by
    unfold fZr
    rw [fx.can, fy.can, bRe_eq u1 u2 _ _ 4 (by omega)]
  have eW : fW a f sc x y = nearP (cRe f (nearP (fdiv y (rS a f sc))) (fdiv x (rS a f sc)) (fdiv y (rS a f sc)) 4) := by unfold fW; rw [eZr]
  rw [← eW] at hp
  rw [← eZi] at fI hq
  have bX' := bX.mono h.x1
  obtain ⟨a1, a2, a3, a4⟩ := lon_small lk bX' hg g0 bs fI hp hq (by grind)
  obtain ⟨fψ, bψ⟩ := iso_small lk b3 bX' hg g0 bs fI hp hq (by grind)
  obtain ⟨_, _, _, _, _, _, _, _, stp⟩ := step_of lk bX' hg g0 bs fI hp hq (by grind)
  -- the cosine of the latitude
  have l1 := h.l1
  have l2 := h.l2
  have he : EccOk (fsqrt (eccP f)) := (ecc_sqrt (by obtain ⟨x, y, z⟩ := ecc_ok h.g; exact ⟨x, y, z⟩)).1
  have hi := iso_linkW f (m := lat) (by omega) (by omega)
  obtain ⟨fsl, bsl⟩ := sin_in84 (m := lat) (by omega) (by omega)
  have TC := T_cos he fsl bsl hi lk.hT lk.T1 lk.T2 lk.tp lk.ex
  have T1 := lk.T1
  have T2 := lk.T2
  have T0 : 0 ≤ T := by grind
  obtain ⟨fcl, c0, c1, nn⟩ := cos_84 (m := lat) (by omega) (by omega)
  have p0 := hp.nonneg
  have q0 := hq.nonneg
  -- cosines as the program has them
  obtain ⟨⟨_, _⟩, ⟨_, _⟩⟩ := cis_near (fW a f sc x y)
  have fcw : Fp.Fin (cosP (fW a f sc x y)) := (cis_near _).1.1
  have fsw : Fp.Fin (sinP (fW a f sc x y)) := (cis_near _).2.1
  refine ⟨in_strip fR R0 R1 fx fy bx bY, ?_, ?_⟩
  · intro rr hrr
    have eT : fT a f sc x y = unP (bT (fZi a f sc x y) (fW a f sc x y)) := by
      unfold fT fK
      rw [fcw.can, fsw.can]
    rw [eT] at hrr
    obtain ⟨b1, b2, b3', b4⟩ := bisW_link (g' := fun m => isoW (fsqrt (eccP f)) (sinP m)) hrr (fun m m1 m2 => iso_linkW f m1 m2)
    rw [hi] at bψ
    have bE := bψ.mono (Rat.mul_le_mul_of_nonneg_left (show 104 / 100 * (p + q') + 15 / 1000000000 ≤ 104 / 100 * W + 15 / 1000000000 by grind) T0)
    exact lat_near he l1 l2 h.G0 h.G1 fψ TC T0 T2 bE (by grind) h.hE b1 b2 b3' b4
  · have eL : fLon a f sc mid x y = signP (normP mid + bA (fZi a f sc x y) (fW a f sc x y)) := by
      unfold fLon fK
      rw [fcw.can]
      rfl
    rw [eL, apart_is]
    have bB := a3.mono (Rat.mul_le_mul_of_nonneg_left (show 1001 / 1000 * (p + q') + 1 / 100000000 ≤ 1001 / 1000 * W + 1 / 100000000 by grind) T0)
    have z0 : (0 : Rat) ≤ 1001 / 1000 * W + 1 / 100000000 := by grind
    have small : T * (1001 / 1000 * W + 1 / 100000000) ≤ 1 / 2000 := by
      have := Rat.mul_le_mul_of_nonneg_right T2 z0
      grind
    have ln := lon_near bB a4 small
    generalize signP (bA (fZi a f sc x y) (fW a f sc x y) - dS mid lon) = z at *
    -- times the cosine
    have Tκ : T * vl (cosP lat) ≤ 1 + 1 / 5000000 := by
      refine le_of_sq (by grind) ?_
      have e : T * vl (cosP lat) * (T * vl (cosP lat)) = T * T * (vl (cosP lat) * vl (cosP lat)) := by grind
      rw [e]
      have TT := sq_le_sq T0 T2
      have k := Rat.mul_le_mul_of_nonneg_left (show vl (cosP lat) * vl (cosP lat) ≤ (1 - vl (sinP lat) * vl (sinP lat)) + 1 / 10000000000000 by have := nn.2; grind) (rsq_nonneg T)
      grind
    have zb := Rat.mul_le_mul_of_nonneg_right Tκ z0
    have r0 := rho_pos
    have hB := h.hB
    have hz : ((if z < 0 then -z else z : Int) : Rat) * rho ≤ 10001 / 10000 * (T * (1001 / 1000 * W + 1 / 100000000)) + 1 / 10000000000 := by
      obtain ⟨_, _⟩ := ln
      split
      · push_cast; grind
      · grind
    refine le_of_scaled r0 ?_
    have k := Rat.mul_le_mul_of_nonneg_right hz (show 0 ≤ vl (cosP lat) by grind)
    generalize ((if z < 0 then -z else z : Int) : Rat) = n at *
    have e1 : rho * (n * vl (cosP lat)) = n * rho * vl (cosP lat) := by grind
    have e2 : (10001 / 10000 * (T * (1001 / 1000 * W + 1 / 100000000)) + 1 / 10000000000) * vl (cosP lat) = 10001 / 10000 * (T * vl (cosP lat) * (1001 / 1000 * W + 1 / 100000000)) + 1 / 10000000000 * vl (cosP lat) := by grind
    rw [e2] at k
    rw [e1]
    generalize T * vl (cosP lat) * (1001 / 1000 * W + 1 / 100000000) = w at *
    have e3 : rho * B = B * rho := by grind
    rw [e3]
    grind
end
end Go.Proofs.YtcppgbhjbmfldaaDoor
