/- The strip there and back: the place that comes back of a point a little off. -/
import Derived.Test.YtcppgbhjbmfldaaGreatDoorZV
namespace Go.Proofs.YtcppgbhjbmfldaaGreatDoor
open Go.Fp Go.Fp.Tri Go.RowKit
set_option maxRecDepth 20000
theorem bisW {g : Int → Nat} {X : Nat} {lo hi r : Int} (h : LatIs g X lo hi r) (hlt : lo < hi) : (leW (g r) X = true ∨ r = lo) ∧ (leW (g (r + 1)) X = false ∨ r + 1 = hi) := by
  induction h with
  | done h => exact ⟨.inr rfl, .inr (by omega)⟩
  | low h hl _ ih =>
    obtain ⟨a, b⟩ := ih (by omega)
    refine ⟨.inl ?_, b⟩
    rcases a with a | a
    · exact a
    · rw [a]; exact hl
  | high h hl _ ih =>
    obtain ⟨a, b⟩ := ih (by omega)
    refine ⟨a, ?_⟩
    rcases b with b | b
    · exact .inl b
    · rw [b]; exact .inl hl
theorem bisW_link {g g' : Int → Nat} {X : Nat} {r : Int} (h : LatOk g X r) (hg : ∀ m, -89000000000 ≤ m → m ≤ 89000000000 → g m = g' m) :
    -89000000000 ≤ r ∧ r ≤ 89000000000 ∧ (fle (g' r) X = true ∨ r = -89000000000) ∧ (fle (g' (r + 1)) X = false ∨ r = 89000000000) := by
  obtain ⟨b1, b2⟩ := LatIs.bounds h (by omega)
  obtain ⟨h1, h2⟩ := bisW h (by omega)
  refine ⟨b1, by omega, ?_, ?_⟩
  · rw [← hg r b1 (by omega)]; exact h1
  · by_cases hr : r = 89000000000
    · exact .inr hr
    · rw [← hg (r + 1) (by omega) (by omega)]
      rcases h2 with h2 | h2
      · exact .inl h2
      · omega
theorem iso_linkW (f : Nat) {m : Int} (h1 : -89000000000 ≤ m) (h2 : m ≤ 89000000000) : isoP f m = isoW (fsqrt (eccP f)) (sinP m) := by
  obtain ⟨fs, _⟩ := sin_in h1 h2
  unfold isoP isoW lnR ratW
  rw [fs.can, v_one.1.can, v_two.1.can]
theorem zIm_eq (f : Nat) (u : Int) (V I0 : Nat) : ∀ k, zIm tabA cA4 f u V I0 k = aIm f u V I0 k
  | 0 => rfl
  | k + 1 => by simp only [zIm, aIm, zIm_eq f u V I0 k]
theorem zRe_eq (f : Nat) (u : Int) (V I0 : Nat) : ∀ k, zRe tabA cA4 f u V I0 k = aRe f u V I0 k
  | 0 => rfl
  | k + 1 => by simp only [zRe, aRe, zRe_eq f u V I0 k]
theorem mW_eq {k : Nat} (hk : k < 4) {u : Int} (h1 : -1000000000000 ≤ u) (h2 : u ≤ 1000000000000) : mW k u = 2 * ((k : Int) + 1) * u := by
  refine IntWalk.i64_in _ ?_
  rcases k with _ | _ | _ | _ | k
  · constructor <;> omega
  · constructor <;> (simp; omega)
  · constructor <;> (simp; omega)
  · constructor <;> (simp; omega)
  · omega
theorem bIm_eq {f : Nat} {u : Int} (h1 : -1000000000000 ≤ u) (h2 : u ≤ 1000000000000) (V I0 : Nat) : ∀ k, k ≤ 4 → bIm f u V I0 k = cIm f u V I0 k
  | 0, _ => rfl
  | k + 1, hk => by simp only [bIm, cIm, bIm_eq h1 h2 V I0 k (by omega), mW_eq (show k < 4 by omega) h1 h2]
theorem bRe_eq {f : Nat} {u : Int} (h1 : -1000000000000 ≤ u) (h2 : u ≤ 1000000000000) (V I0 : Nat) : ∀ k, k ≤ 4 → bRe f u V I0 k = cRe f u V I0 k
  | 0, _ => rfl
  | k + 1, hk => by simp only [bRe, cRe, bRe_eq h1 h2 V I0 k (by omega), mW_eq (show k < 4 by omega) h1 h2]
theorem v_four : Fp.Fin 4616189618054758400 ∧ vl 4616189618054758400 = 4 := vl_const (s := false) (m := 4503599627370496) (k := 50) (by decide +kernel) (by decide +kernel)
theorem v_64 : Fp.Fin 4634204016564240384 ∧ vl 4634204016564240384 = 64 := vl_const (s := false) (m := 4503599627370496) (k := 46) (by decide +kernel) (by decide +kernel)
/-- the radius on paper -/
theorem rS_near {a f sc high : Nat} (g : Snd a f high) (fsc : Fp.Fin sc) (s1 : 99 / 1000 ≤ vl sc) (s2 : vl sc ≤ 10) : Fp.Fin (rS a f sc) ∧ 10000 ≤ vl (rS a f sc) ∧ vl (rS a f sc) ≤ 1000000000 := by
  have u1 : uu = 1 / 9007199254740992 := uu_eq
  obtain ⟨fa, a1, a2, ff, f1, f2, _⟩ := g
  have hn := nS_near ff f1 f2
  obtain ⟨b0, b1, _⟩ := nQ_bd f1 f2
  have bn : Wn (nQ f) (6 / 1000) := ⟨by grind, by grind⟩
  obtain ⟨p2, p3, p4⟩ := small_pw bn
  have h2 : Nr (n2S f) (nQ f * nQ f) (2 / 10000000000000000) := times_small hn hn bn bn
  have h4 : Nr (n4S f) (nQ f * nQ f * (nQ f * nQ f)) (2 / 10000000000000000) := times_small h2 h2 p2 p2
  have w1 : Wn (vl (nS f)) (7 / 1000) := (wn_add hn.2 bn).of (by grind) (by grind)
  have w2 : Wn (vl (n2S f)) (7 / 1000) := (wn_add h2.2 p2).of (by grind) (by grind)
  have w4 : Wn (vl (n4S f)) (7 / 1000) := (wn_add h4.2 p4).of (by grind) (by grind)
  unfold rS radS
  rw [fa.can, fsc.can, v_four.1.can, v_64.1.can, show Fp.can 4607182418800017408 = Fp.cOne from v_one.1.can]
  obtain ⟨g1, e1⟩ := addE v_one.1 hn.1 2 (by rw [v_one.2]; obtain ⟨_, _⟩ := w1; constructor <;> grind) (by grind)
  rw [v_one.2] at e1
  obtain ⟨x1, x2⟩ := e1
  obtain ⟨y1, y2⟩ := w1
  rw [u1] at x1 x2
  have d0 : 99 / 100 ≤ vl (fadd Fp.cOne (nS f)) := by grind
  have d1 : vl (fadd Fp.cOne (nS f)) ≤ 101 / 100 := by grind
  have q : Wn (vl a / vl (fadd Fp.cOne (nS f)) - vl a) (vl a * (2 / 100)) := by
    refine wn_quot (c := vl (fadd Fp.cOne (nS f))) (c0 := 99 / 100) (by grind) d0 ?_
    have e2 : (vl a / vl (fadd Fp.cOne (nS f)) - vl a) * vl (fadd Fp.cOne (nS f)) = vl a / vl (fadd Fp.cOne (nS f)) * vl (fadd Fp.cOne (nS f)) - vl a * vl (fadd Fp.cOne (nS f)) := by grind
    rw [e2, div_mul_c (ne_of_pos (by grind)) rfl]
    have := wn_mul (wn_pos (show 0 ≤ vl a by grind)) (show Wn (1 - vl (fadd Fp.cOne (nS f))) (1 / 100) from ⟨by grind, by grind⟩)
    refine this.of (by grind) (by grind)
  obtain ⟨g2, e2⟩ := divE fa g1 (ne_of_pos (by grind)) 11000000 (by obtain ⟨_, _⟩ := q; constructor <;> grind) (by grind)
  have A : 900000 ≤ vl (fdiv a (fadd Fp.cOne (nS f))) ∧ vl (fdiv a (fadd Fp.cOne (nS f))) ≤ 10500000 := by
    obtain ⟨_, _⟩ := q
    obtain ⟨_, _⟩ := e2
    rw [u1] at *
    constructor <;> grind
  obtain ⟨g3, e3⟩ := divE h2.1 v_four.1 (by rw [v_four.2]; grind) 1 (by rw [v_four.2]; obtain ⟨_, _⟩ := w2; constructor <;> grind) (by grind)
  obtain ⟨g4, e4⟩ := divE h4.1 v_64.1 (by rw [v_64.2]; grind) 1 (by rw [v_64.2]; obtain ⟨_, _⟩ := w4; constructor <;> grind) (by grind)
  rw [v_four.2] at e3
  rw [v_64.2] at e4
  obtain ⟨z1, z2⟩ := e3
  obtain ⟨z3, z4⟩ := e4
  obtain ⟨y3, y4⟩ := w2
  obtain ⟨y5, y6⟩ := w4
  rw [u1] at z1 z2 z3 z4
  obtain ⟨g5, e5⟩ := addE v_one.1 g3 2 (by rw [v_one.2]; constructor <;> grind) (by grind)
  rw [v_one.2] at e5
  obtain ⟨t1, t2⟩ := e5
  rw [u1] at t1 t2
  obtain ⟨g6, e6⟩ := addE g5 g4 2 (by constructor <;> grind) (by grind)
  obtain ⟨t3, t4⟩ := e6
  rw [u1] at t3 t4
  have B : 99 / 100 ≤ vl (fadd (fadd Fp.cOne (fdiv (n2S f) 4616189618054758400)) (fdiv (n4S f) 4634204016564240384)) ∧ vl (fadd (fadd Fp.cOne (fdiv (n2S f) 4616189618054758400)) (fdiv (n4S f) 4634204016564240384)) ≤ 101 / 100 := by constructor <;> grind
  have AB := mul_mono (show 0 ≤ vl (fdiv a (fadd Fp.cOne (nS f))) by grind) A.2 (show 0 ≤ vl (fadd (fadd Fp.cOne (fdiv (n2S f) 4616189618054758400)) (fdiv (n4S f) 4634204016564240384)) by grind) B.2
  have AB0 := mul_mono (show (0 : Rat) ≤ 900000 by grind) A.1 (show (0 : Rat) ≤ 99 / 100 by grind) B.1
  obtain ⟨g7, e7⟩ := mulE g2 g6 11000000 (by constructor <;> grind) (by grind)
  obtain ⟨t5, t6⟩ := e7
  rw [u1] at t5 t6
  generalize fmul (fdiv a (fadd Fp.cOne (nS f))) (fadd (fadd Fp.cOne (fdiv (n2S f) 4616189618054758400)) (fdiv (n4S f) 4634204016564240384)) = Q at *
  have Q0 : 880000 ≤ vl Q := by grind
  have Q1 : vl Q ≤ 10700000 := by grind
  have m1 := mul_mono (show (0 : Rat) ≤ 880000 by grind) Q0 (show (0 : Rat) ≤ 99 / 1000 by grind) s1
  have m2 := mul_mono (show 0 ≤ vl Q by grind) Q1 (show 0 ≤ vl sc by grind) s2
  obtain ⟨g8, e8⟩ := mulE g7 fsc 200000000 (by constructor <;> grind) (by grind)
  obtain ⟨t7, t8⟩ := e8
  rw [u1] at t7 t8
  exact ⟨g8, by grind, by grind⟩
end Go.Proofs.YtcppgbhjbmfldaaGreatDoor

/- The strip there and back, joined: of a point that is a little off, the place that comes back is a little off. -/
namespace Go.Proofs.YtcppgbhjbmfldaaGreatDoor
open Go.Fp Go.Fp.Tri Go.RowKit
set_option maxRecDepth 20000
theorem apart_is (mid lon a : Int) : apartP (signP (normP mid + a)) lon = signP (a - dS mid lon) := by
  have h : normP (normP (signP (normP mid + a)) - normP lon) = normP (a - dS mid lon) := by
    unfold dS signP normP
    split <;> omega
  unfold apartP
  have key : ∀ x y : Int, normP x = normP y → signP x = signP y := by
    intro x y hxy
    unfold signP
    rw [hxy]
  exact key _ _ h
theorem in_strip {R x y : Nat} (fR : Fp.Fin R) (R0 : 10000 ≤ vl R) (R1 : vl R ≤ 1000000000) (fx : Fp.Fin x) (fy : Fp.Fin y) (bx : Wn (vl x) (vl R * (6 / 10))) (bY : Wn (vl y) (vl R * (159 / 100))) : inS R x y = true := by
  have u1 : uu = 1 / 9007199254740992 := uu_eq
  obtain ⟨fn, vn⟩ := vl_neg R fR
  have en : negC R = Op.negFloat .f64 R := by unfold negC; rw [fn.can]
  have v16 : Fp.Fin k16 ∧ vl k16 = 7205759403792794 / 4503599627370496 := vl_const (s := false) (m := 7205759403792794) (k := 52) (by decide +kernel) (by decide +kernel)
  obtain ⟨f2, e2⟩ := mulE v16.1 fR (vl R * (17 / 10)) (by rw [v16.2]; constructor <;> grind) (by grind)
  rw [v16.2] at e2
  obtain ⟨a1, a2⟩ := e2
  rw [u1] at a1 a2
  obtain ⟨fn2, vn2⟩ := vl_neg (fmul k16 R) f2
  have en2 : negC (fmul k16 R) = Op.negFloat .f64 (fmul k16 R) := by unfold negC; rw [fn2.can]
  obtain ⟨x1, x2⟩ := bx
  obtain ⟨y1, y2⟩ := bY
  unfold inS inX1 inX2 inY1 inY2
  rw [en, en2]
  rw [(fge_vl fx fn).2 (by rw [vn]; grind), (fle_vl fx fR).2 (by grind), (fge_vl fy fn2).2 (by rw [vn2]; grind), (fle_vl fy f2).2 (by grind)]
  rfl
/-- what is asked of place, strip and numbers -/
structure Asked (a f sc high : Nat) (mid lon lat D0 G : Int) (N Kp q B2 B1 B3 B4 m d1 d2 d3 d4 em M δ S0 C0 x0 r0 K W B : Rat) : Prop where
  hr : Reg N Kp q B2 B1 B3 B4 m d1 d2 d3 d4 em M
  g : Snd a f high
  hn : Wn (nQ f) N
  fsc : Fp.Fin sc
  s1 : 99 / 1000 ≤ vl sc
  s2 : vl sc ≤ 10
  l1 : -84000000000 ≤ lat
  l2 : lat ≤ 84000000000
  t1 : -D0 ≤ signP (dS mid lon)
  t2 : signP (dS mid lon) ≤ D0
  hD : D0 < 45000000000
  hS : S ((D0 : Rat) * rho) ≤ S0
  hC : C0 ≤ C ((D0 : Rat) * rho)
  c0 : 861 / 1000 ≤ C0
  s0 : 0 ≤ S0
  s5 : S0 ≤ 505 / 1000
  hx0 : S0 + 2 / 100000000000 ≤ x0 * (C0 - 1 / 10000000000000)
  x1 : x0 ≤ 5774 / 10000
  hr0 : (1 + x0 * x0) * (1 + 1 / 100000000000000) ≤ r0 * r0
  r00 : 0 ≤ r0
  x00 : 0 ≤ x0
  k1 : 1 ≤ x0 + r0
  k2 : x0 + r0 ≤ 2
  hK : (x0 + r0) * (x0 + r0) * (1 + 1 / 100000000) ≤ K
  hK2 : K ≤ 30002 / 10000
  hKp : K * (1000002 / 1000000) ≤ Kp
  d0 : 0 ≤ δ
  dm : δ ≤ 1 / 10000000
  hε : 15 / 100000000000 + 3 * δ ≤ em
  hM : M ≤ 1 / 1000
  hW : 71 / 100 * (15 / 100000000000 + 3 * δ + M + 2 / 100000000000) + 1 / 100000000000 ≤ W
  hW2 : W ≤ 2 / 1000000
  G0 : 1900 ≤ G
  G1 : G ≤ 1000000
  hE : (104 / 100 * W + 15 / 1000000000) * (1 + 1 / 1000000) < 64 / 100 * ((G : Rat) * rho)
  hB : 10002 / 10000 * (1001 / 1000 * W + 1 / 100000000) + 2 / 10000000000 ≤ B * rho
section
variable {a f sc high : Nat} {mid lon lat D0 G : Int} {N Kp q B2 B1 B3 B4 m d1 d2 d3 d4 em M δ S0 C0 x0 r0 K W B : Rat}
/-- the place on the ball along the meridian -/
theorem Asked.look (h : Asked a f sc high mid lon lat D0 G N Kp q B2 B1 B3 B4 m d1 d2 d3 d4 em M δ S0 C0 x0 r0 K W B) : ∃ T r, Look (isoP f lat) (cosP (dS mid lon)) (sinP (dS mid lon)) T r ∧ Wn (vl (lX (isoP f lat) (cosP (dS mid lon)) (sinP (dS mid lon)))) x0 ∧ Wave (lU (isoP f lat) (cosP (dS mid lon))) (vl (lV (isoP f lat) (cosP (dS mid lon)) (sinP (dS mid lon)))) K ∧
    uS f lat (dS mid lon) = lU (isoP f lat) (cosP (dS mid lon)) ∧ vS f lat (dS mid lon) = lV (isoP f lat) (cosP (dS mid lon)) (sinP (dS mid lon)) ∧
    Wn (vl (cosP (dS mid lon)) * vl (cosP (dS mid lon)) + vl (sinP (dS mid lon)) * vl (sinP (dS mid lon)) - 1) (1 / 10000000000000) ∧ 86 / 100 ≤ vl (cosP (dS mid lon)) ∧ Wn (vl (sinP (dS mid lon))) (51 / 100) ∧ Wn (vl (isoP f lat)) 3 := by
  have l1 := h.l1
  have l2 := h.l2
  have he : EccOk (fsqrt (eccP f)) := (ecc_sqrt (by obtain ⟨x, y, z⟩ := ecc_ok h.g; exact ⟨x, y, z⟩)).1
  have hi := iso_linkW f (m := lat) (by omega) (by omega)
  obtain ⟨fsl, bsl⟩ := sin_in84 (m := lat) (by omega) (by omega)
  obtain ⟨fi, _, _⟩ := iso_by he fsl bsl
  have b3 := iso_84 he fsl bsl
  rw [← hi] at fi b3
  obtain ⟨fc, fs, hg, hc, hs⟩ := dir_near h.t1 h.t2 h.hD h.hS h.hC
  have c0 := h.c0
  have s5 := h.s5
  obtain ⟨T, r, lk⟩ := look_some fi b3 fc fs hg (by grind) (hs.mono (by grind))
  obtain ⟨bX, wv⟩ := wave_of lk (S0 := S0 + 2 / 100000000000000) (C0 := C0 - 2 / 100000000000000) hs hc (by grind) (by have := h.hx0; have := h.x00; grind) h.x1 h.hr0 h.r00 h.x00 h.k1 h.k2 h.hK h.hK2
  refine ⟨T, r, lk, bX, wv, ?_, ?_, hg, by grind, hs.mono (by grind), b3⟩
  · unfold uS tS lU angS
    rw [fc.can]
  · unfold vS tS lV lX lR
    rw [fc.can, fs.can]
/-- where a place is on the strip -/
theorem Asked.fin (h : Asked a f sc high mid lon lat D0 G N Kp q B2 B1 B3 B4 m d1 d2 d3 d4 em M δ S0 C0 x0 r0 K W B) : Fp.Fin (stripX a f sc (uS f lat (dS mid lon)) (vS f lat (dS mid lon))) ∧ Fp.Fin (stripY a f sc (uS f lat (dS mid lon)) (vS f lat (dS mid lon))) := by
  obtain ⟨T, r, lk, bX, wv, eu, ev, _, _, _, _⟩ := h.look
  obtain ⟨_, _, _, ff, f1, f2, _⟩ := h.g
  obtain ⟨fR, R0, R1⟩ := rS_near h.g h.fsc h.s1 h.s2
  obtain ⟨fa, fb, _, ba, bb⟩ := there h.hr ff f1 f2 h.hn wv h.hKp lk.fV rfl lk.u1 lk.u2
  rw [eu, ev]
  unfold stripX stripY
  rw [zIm_eq, zRe_eq]
  exact ⟨(mul_R fR fb R0 R1 (bb.mono (by grind))).1, (mul_R fR fa R0 R1 (ba.mono (by grind))).1⟩
theorem Asked.back (h : Asked a f sc high mid lon lat D0 G N Kp q B2 B1 B3 B4 m d1 d2 d3 d4 em M δ S0 C0 x0 r0 K W B) {x y : Nat} (fx : Fp.Fin x) (fy : Fp.Fin y)
    (hx : Wn (vl x - vl (stripX a f sc (uS f lat (dS mid lon)) (vS f lat (dS mid lon)))) (vl (rS a f sc) * δ)) (hy : Wn (vl y - vl (stripY a f sc (uS f lat (dS mid lon)) (vS f lat (dS mid lon)))) (vl (rS a f sc) * δ)) :
    inS (rS a f sc) x y = true ∧ (∀ r, LatOk (isoP f) (fT a f sc x y) r → r - lat ≤ G + 50 ∧ lat - r ≤ G + 50) ∧
    (((if apartP (fLon a f sc mid x y) lon < 0 then -apartP (fLon a f sc mid x y) lon else apartP (fLon a f sc mid x y) lon : Int) : Rat)) * vl (cosP lat) ≤ B := by
  obtain ⟨T, r, lk, bX, wv, eu, ev, hg, g0, bs, b3⟩ := h.look
  obtain ⟨_, _, _, ff, f1, f2, _⟩ := h.g
  obtain ⟨fR, R0, R1⟩ := rS_near h.g h.fsc h.s1 h.s2
  have hx' : Wn (vl x - vl (fmul (rS a f sc) (aIm f (lU (isoP f lat) (cosP (dS mid lon))) (lV (isoP f lat) (cosP (dS mid lon)) (sinP (dS mid lon))) (lV (isoP f lat) (cosP (dS mid lon)) (sinP (dS mid lon))) 4))) (vl (rS a f sc) * δ) := by
    rw [eu, ev] at hx
    unfold stripX at hx
    rw [zIm_eq] at hx
    exact hx
  have hy' : Wn (vl y - vl (fmul (rS a f sc) (aRe f (lU (isoP f lat) (cosP (dS mid lon))) (lV (isoP f lat) (cosP (dS mid lon)) (sinP (dS mid lon))) (r0W (lU (isoP f lat) (cosP (dS mid lon)))) 4))) (vl (rS a f sc) * δ) := by
    rw [eu, ev] at hy
    unfold stripY at hy
    rw [zRe_eq] at hy
    exact hy
  obtain ⟨fV1, fR1, u1, u2, bx, bY, p, q', fI, fC, hp, hq, hpq⟩ := strip_core h.hr ff f1 f2 h.hn wv h.hKp lk.fV rfl lk.u1 lk.u2 fR R0 R1 fx fy hx' hy' h.d0 h.dm h.hε h.hM
  have hW := h.hW
  have hW2 := h.hW2
  have hWp : p + q' ≤ W := by grind
  -- what From reckons
  have eZi : fZi a f sc x y = cIm f (nearP (fdiv y (rS a f sc))) (fdiv x (rS a f sc)) (fdiv x (rS a f sc)) 4 := by
    unfold fZi
    rw [fx.can, fy.can, bIm_eq u1 u2 _ _ 4 (by omega)]
  have eZr : fZr a f sc x y = cRe f (nearP (fdiv y (rS a f sc))) (fdiv x (rS a f sc)) (fdiv y (rS a f sc)) 4 := by
    unfold fZr
    rw [fx.can, fy.can, bRe_eq u1 u2 _ _ 4 (by omega)]
  have eW : fW a f sc x y = nearP (cRe f (nearP (fdiv y (rS a f sc))) (fdiv x (rS a f sc)) (fdiv y (rS a f sc)) 4) := by unfold fW; rw [eZr]
  rw [← eW] at hp
  rw [← eZi] at fI hq
  have bX' := bX.mono h.x1
  obtain ⟨a1, a2, a3, a4⟩ := lon_small lk bX' hg g0 bs fI hp hq (by grind)
  obtain ⟨fψ, bψ⟩ := iso_small lk b3 bX' hg g0 bs fI hp hq (by grind)
  obtain ⟨_, _, _, _, _, _, _, _, stp⟩ := step_of lk bX' hg g0 bs fI hp hq (by grind)
  -- the cosine of the latitude
  have l1 := h.l1
  have l2 := h.l2
  have he : EccOk (fsqrt (eccP f)) := (ecc_sqrt (by obtain ⟨x, y, z⟩ := ecc_ok h.g; exact ⟨x, y, z⟩)).1
  have hi := iso_linkW f (m := lat) (by omega) (by omega)
  obtain ⟨fsl, bsl⟩ := sin_in84 (m := lat) (by omega) (by omega)
  have TC := T_cos he fsl bsl hi lk.hT lk.T1 lk.T2 lk.tp lk.ex
  have T1 := lk.T1
  have T2 := lk.T2
  have T0 : 0 ≤ T := by grind
  obtain ⟨fcl, c0, c1, nn⟩ := cos_84 (m := lat) (by omega) (by omega)
  have p0 := hp.nonneg
  have q0 := hq.nonneg
  -- cosines as the program has them
  obtain ⟨⟨_, _⟩, ⟨_, _⟩⟩ := cis_near (fW a f sc x y)
  have fcw : Fp.Fin (cosP (fW a f sc x y)) := (cis_near _).1.1
  have fsw : Fp.Fin (sinP (fW a f sc x y)) := (cis_near _).2.1
  refine ⟨in_strip fR R0 R1 fx fy bx bY, ?_, ?_⟩
  · intro rr hrr
    have eT : fT a f sc x y = unP (bT (fZi a f sc x y) (fW a f sc x y)) := by
      unfold fT fK
      rw [fcw.can, fsw.can]
    rw [eT] at hrr
    obtain ⟨b1, b2, b3', b4⟩ := bisW_link (g' := fun m => isoW (fsqrt (eccP f)) (sinP m)) hrr (fun m m1 m2 => iso_linkW f m1 m2)
    rw [hi] at bψ
    have bE := bψ.mono (Rat.mul_le_mul_of_nonneg_left (show 104 / 100 * (p + q') + 15 / 1000000000 ≤ 104 / 100 * W + 15 / 1000000000 by grind) T0)
    exact lat_near he l1 l2 h.G0 h.G1 fψ TC T0 T2 bE (by grind) h.hE b1 b2 b3' b4
  · have eL : fLon a f sc mid x y = signP (normP mid + bA (fZi a f sc x y) (fW a f sc x y)) := by
      unfold fLon fK
      rw [fcw.can]
      rfl
    rw [eL, apart_is]
    have bB := a3.mono (Rat.mul_le_mul_of_nonneg_left (show 1001 / 1000 * (p + q') + 1 / 100000000 ≤ 1001 / 1000 * W + 1 / 100000000 by grind) T0)
    have z0 : (0 : Rat) ≤ 1001 / 1000 * W + 1 / 100000000 := by grind
    have small : T * (1001 / 1000 * W + 1 / 100000000) ≤ 1 / 2000 := by
      have := Rat.mul_le_mul_of_nonneg_right T2 z0
      grind
    have ln := lon_near bB a4 small
    generalize signP (bA (fZi a f sc x y) (fW a f sc x y) - dS mid lon) = z at *
    -- times the cosine
    have Tκ : T * vl (cosP lat) ≤ 1 + 1 / 5000000 := by
      refine le_of_sq (by grind) ?_
      have e : T * vl (cosP lat) * (T * vl (cosP lat)) = T * T * (vl (cosP lat) * vl (cosP lat)) := by grind
      rw [e]
      have TT := sq_le_sq T0 T2
      have k := Rat.mul_le_mul_of_nonneg_left (show vl (cosP lat) * vl (cosP lat) ≤ (1 - vl (sinP lat) * vl (sinP lat)) + 1 / 10000000000000 by have := nn.2; grind) (rsq_nonneg T)
      grind
    have zb := Rat.mul_le_mul_of_nonneg_right Tκ z0
    have r0 := rho_pos
    have hB := h.hB
    have hz : ((if z < 0 then -z else z : Int) : Rat) * rho ≤ 10001 / 10000 * (T * (1001 / 1000 * W + 1 / 100000000)) + 1 / 10000000000 := by
      obtain ⟨_, _⟩ := ln
      split
      · push_cast; grind
      · grind
    refine le_of_scaled r0 ?_
    have k := Rat.mul_le_mul_of_nonneg_right hz (show 0 ≤ vl (cosP lat) by grind)
    generalize ((if z < 0 then -z else z : Int) : Rat) = n at *
    have e1 : rho * (n * vl (cosP lat)) = n * rho * vl (cosP lat) := by grind
    have e2 : (10001 / 10000 * (T * (1001 / 1000 * W + 1 / 100000000)) + 1 / 10000000000) * vl (cosP lat) = 10001 / 10000 * (T * vl (cosP lat) * (1001 / 1000 * W + 1 / 100000000)) + 1 / 10000000000 * vl (cosP lat) := by grind
    rw [e2] at k
    rw [e1]
    generalize T * vl (cosP lat) * (1001 / 1000 * W + 1 / 100000000) = w at *
    have e3 : rho * B = B * rho := by grind
    rw [e3]
    grind
end
end Go.Proofs.YtcppgbhjbmfldaaGreatDoor

/- The strips of the grid: what is asked of them, and how far a point of whole metres is off. -/
namespace Go.Proofs.YtcppgbhjbmfldaaGreatDoor
open Go.Fp Go.Fp.Tri Go.RowKit Ieee
set_option maxRecDepth 20000
theorem grid_fine : strP (okG gA gF) gS = 0 := by decide +kernel
theorem v_gA : Fp.Fin gA ∧ vl gA = 6378137 := vl_const (s := false) (m := 6848472456101888) (k := 30) (by decide +kernel) (by decide +kernel)
theorem v_gF : Fp.Fin gF ∧ vl gF = 7731055032525097 / 2305843009213693952 := vl_const (s := false) (m := 7731055032525097) (k := 61) (by decide +kernel) (by decide +kernel)
theorem v_gS : Fp.Fin gS ∧ vl gS = 9003596375039096 / 9007199254740992 := vl_const (s := false) (m := 9003596375039096) (k := 53) (by decide +kernel) (by decide +kernel)
theorem v_g5e5 : Fp.Fin g5e5 ∧ vl g5e5 = 500000 := vl_const (s := false) (m := 8589934592000000) (k := 34) (by decide +kernel) (by decide +kernel)
theorem v_g1e7 : Fp.Fin g1e7 ∧ vl g1e7 = 10000000 := vl_const (s := false) (m := 5368709120000000) (k := 29) (by decide +kernel) (by decide +kernel)
theorem v_gR : Fp.Fin (rS gA gF gS) ∧ vl (rS gA gF gS) = 6834261661479651 / 1073741824 := vl_const (s := false) (m := 6834261661479651) (k := 30) (by decide +kernel) (by decide +kernel)
theorem snd_grid : Snd gA gF 0 := by
  have v0 : Fp.Fin 0 ∧ vl 0 = 0 := v_0
  refine ⟨v_gA.1, ?_, ?_, v_gF.1, ?_, ?_, v0.1, by rw [v0.2]; grind, by rw [v0.2]; grind⟩
  · rw [v_gA.2]; grind
  · rw [v_gA.2]; grind
  · rw [v_gF.2]; grind
  · rw [v_gF.2]; grind
theorem asked_grid {mid lon lat : Int} (l1 : -80000000000 ≤ lat) (l2 : lat ≤ 84000000000) (t1 : -3000000000 ≤ signP (dS mid lon)) (t2 : signP (dS mid lon) ≤ 3000000000) :
    Asked gA gF gS 0 mid lon lat 6000000000 19950 (2005 / 1000000) (12336 / 10000) (26 / 10000) (26 / 1000000000) (56 / 1000000) (16 / 1000) (22 / 1000) (2 / 100000000000) (11 / 10000) (9 / 100000000) (3 / 10000000000) (1 / 1000000000000) (1 / 1000000) (4 / 1000000000) (79 / 1000000000) (10452847 / 100000000) (99452189 / 100000000) (105105 / 1000000) (100551 / 100000) (12335 / 10000) (175 / 1000000000) 10700 := by
  have g := snd_grid
  obtain ⟨n0, n1, n2⟩ := nQ_bd g.f1 g.f2
  have n3 := n2 (by rw [v_gF.2]; grind)
  have e1 : ((19950 : Int) : Rat) = 19950 := rfl
  exact ⟨reg_grid, g, ⟨by grind, n3⟩, v_gS.1, by rw [v_gS.2]; grind, by rw [v_gS.2]; grind, by omega, l2, by omega, by omega, by decide, S_6.1, S_6.2, by grind, by grind, by grind, by grind, by grind, by grind, by grind, by grind, by grind, by grind, by grind, by grind, by grind, by grind, by grind, by grind, by grind, by grind, by grind, by decide, by decide, by rw [e1]; have := rho_lo; grind, by have := rho_lo; grind⟩
/-- where a point of a strip is at all -/
theorem Asked.bound {a f sc high : Nat} {mid lon lat D0 G : Int} {N Kp q B2 B1 B3 B4 m d1 d2 d3 d4 em M δ S0 C0 x0 r0 K W B : Rat} (h : Asked a f sc high mid lon lat D0 G N Kp q B2 B1 B3 B4 m d1 d2 d3 d4 em M δ S0 C0 x0 r0 K W B) :
    Wn (vl (stripX a f sc (uS f lat (dS mid lon)) (vS f lat (dS mid lon)))) (vl (rS a f sc) * (6 / 10)) ∧ Wn (vl (stripY a f sc (uS f lat (dS mid lon)) (vS f lat (dS mid lon)))) (vl (rS a f sc) * (159 / 100)) := by
  obtain ⟨T, r, lk, bX, wv, eu, ev, hg, g0, bs, b3⟩ := h.look
  obtain ⟨_, _, _, ff, f1, f2, _⟩ := h.g
  obtain ⟨fR, R0, R1⟩ := rS_near h.g h.fsc h.s1 h.s2
  obtain ⟨fX, fY⟩ := h.fin
  have d0 := h.d0
  have z := Rat.mul_nonneg (show 0 ≤ vl (rS a f sc) by grind) d0
  generalize hX : stripX a f sc (uS f lat (dS mid lon)) (vS f lat (dS mid lon)) = X at *
  generalize hY : stripY a f sc (uS f lat (dS mid lon)) (vS f lat (dS mid lon)) = Y at *
  have hx' : Wn (vl X - vl (fmul (rS a f sc) (aIm f (lU (isoP f lat) (cosP (dS mid lon))) (lV (isoP f lat) (cosP (dS mid lon)) (sinP (dS mid lon))) (lV (isoP f lat) (cosP (dS mid lon)) (sinP (dS mid lon))) 4))) (vl (rS a f sc) * δ) := by
    rw [← hX, eu, ev]
    unfold stripX
    rw [zIm_eq, show fmul (radS a f) (can sc) = rS a f sc from rfl]
    generalize vl (fmul (rS a f sc) _) = q
    generalize vl (rS a f sc) * δ = e at *
    constructor <;> grind
  have hy' : Wn (vl Y - vl (fmul (rS a f sc) (aRe f (lU (isoP f lat) (cosP (dS mid lon))) (lV (isoP f lat) (cosP (dS mid lon)) (sinP (dS mid lon))) (r0W (lU (isoP f lat) (cosP (dS mid lon)))) 4))) (vl (rS a f sc) * δ) := by
    rw [← hY, eu, ev]
    unfold stripY
    rw [zRe_eq, show fmul (radS a f) (can sc) = rS a f sc from rfl]
    generalize vl (fmul (rS a f sc) _) = q
    generalize vl (rS a f sc) * δ = e at *
    constructor <;> grind
  obtain ⟨_, _, _, _, bx, bY, _⟩ := strip_core h.hr ff f1 f2 h.hn wv h.hKp lk.fV rfl lk.u1 lk.u2 fR R0 R1 fX fY hx' hy' h.d0 h.dm h.hε h.hM
  exact ⟨bx, bY⟩
/-- a whole number next to a number and a whole number -/
theorem whole_near {X c : Nat} {k : Rat} (fX : Fp.Fin X) (bX : Wn (vl X) 20000000) (fc : Fp.Fin c) (hc : vl c = k) (k0 : 0 ≤ k) (k1 : k ≤ 10000000) : Fp.Fin (fadd X c) ∧ Wn (vl (fadd X c)) 1000000000 ∧ Wn (((nearV (fadd X c) : Int) : Rat) - k - vl X) (500001 / 1000000) := by
  have u1 : uu = 1 / 9007199254740992 := uu_eq
  obtain ⟨x1, x2⟩ := bX
  obtain ⟨f2, e2⟩ := addE fX fc 100000000 (by rw [hc]; constructor <;> grind) (by grind)
  rw [hc] at e2
  obtain ⟨y1, y2⟩ := e2
  rw [u1] at y1 y2
  have b : Wn (vl (fadd X c)) 1000000000 := by constructor <;> grind
  obtain ⟨n1, n2⟩ := nearV_err f2 (b.mono (by grind))
  exact ⟨f2, b, by constructor <;> grind⟩
/-- a number rounded to a whole one is it -/
theorem nearV_bd {x : Nat} (fx : Fp.Fin x) (bx : Wn (vl x) 1000000000) : -1000000001 ≤ nearV x ∧ nearV x ≤ 1000000001 := by
  obtain ⟨n1, n2⟩ := nearV_err fx (bx.mono (by grind))
  obtain ⟨x1, x2⟩ := bx
  have a1 : ((-1000000001 : Int) : Rat) ≤ (nearV x : Rat) := by
    have e : ((-1000000001 : Int) : Rat) = -1000000001 := rfl
    rw [e]; grind
  have a2 : (nearV x : Rat) ≤ ((1000000001 : Int) : Rat) := by
    have e : ((1000000001 : Int) : Rat) = 1000000001 := rfl
    rw [e]; grind
  exact ⟨Rat.intCast_le_intCast.1 a1, Rat.intCast_le_intCast.1 a2⟩
theorem real_fin {x : Nat} (h : Fp.Fin x) : isNan x = false := by
  obtain ⟨s, m, i, hr⟩ := h
  unfold isNan
  rw [hr]; rfl
theorem even_prog {x r : Nat} (fx : Fp.Fin x) (bx : Wn (vl x) 1000000000) (h : IntR .even x r) : floatToIntVal .f64 r .i64 = some (nearV x) := by
  have hb := nearV_bd fx bx
  have hn := real_fin fx
  obtain ⟨s, m, i, e⟩ := fx
  rcases h with ⟨h1, _⟩ | ⟨_, rfl⟩
  · rw [hn] at h1; cases h1
  have hI := isI_int (way := .even) (.inl rfl) e
  have c := cut_near s m i
  rw [vl_of e] at bx
  have e0 : vd s m i = ((sg s : Int) : Rat) * ((m : Rat) * pw i) := by unfold vd; generalize pw i = z; grind
  rw [e0] at bx
  have hv : nearV x = if -9000000000000000000 ≤ signed s (Toward.even.cut s (m <<< i.toNat) (-i).toNat) 0 ∧ signed s (Toward.even.cut s (m <<< i.toNat) (-i).toNat) 0 ≤ 9000000000000000000 then signed s (Toward.even.cut s (m <<< i.toNat) (-i).toNat) 0 else 0 := by
    unfold nearV; rw [e]
  rw [signed0] at hI hv
  generalize Toward.even.cut s (m <<< i.toNat) (-i).toNat = Kn at *
  generalize (m : Rat) * pw i = v at *
  have hb : (Kn : Rat) ≤ ((1000000001 : Nat) : Rat) := by
    have e9 : ((1000000001 : Nat) : Rat) = 1000000001 := rfl
    rw [e9]
    cases s
    · rw [show ((sg false : Int) : Rat) = 1 from rfl] at bx
      obtain ⟨_, _⟩ := c
      obtain ⟨_, _⟩ := bx
      grind
    · rw [show ((sg true : Int) : Rat) = -1 from rfl] at bx
      obtain ⟨_, _⟩ := c
      obtain ⟨_, _⟩ := bx
      grind
  have hK : Kn ≤ 1000000001 := Rat.natCast_le_natCast.1 hb
  have es : -1000000001 ≤ sg s * (Kn : Int) ∧ sg s * (Kn : Int) ≤ 1000000001 := by
    cases s
    · rw [show sg false = 1 from rfl]; omega
    · rw [show sg true = -1 from rfl]; omega
  rw [if_pos (by omega)] at hv
  rw [hv]
  exact toVal hI (by omega) (by omega)
theorem v_c9 : Fp.Fin c9 ∧ vl c9 = 9000000000000000000 ∧ Fp.Fin m9 ∧ vl m9 = -9000000000000000000 := by
  have h1 : D.read c9 = .number false 8789062500000000 10 := by decide +kernel
  have h2 : D.read m9 = .number true 8789062500000000 10 := by decide +kernel
  have e : pw 10 = 1024 := by decide +kernel
  refine ⟨⟨_, _, _, h1⟩, ?_, ⟨_, _, _, h2⟩, ?_⟩
  · rw [vl_of h1]
    unfold vd
    rw [e]
    decide +kernel
  · rw [vl_of h2]
    unfold vd
    rw [e]
    decide +kernel
theorem even_ref {x : Nat} (fx : Fp.Fin x) (bx : Wn (vl x) 1000000000) : ∃ V q, (∀ f, IntR .down x f → floatToIntVal .f64 f .i64 = some V ∧ ∀ d, can d = fsub (can x) (can f) → D.order d half = some q) ∧ IntKind.i64.wrap (V + 1) = V + 1 ∧ nearV x = if q = .gt ∨ q = .eq ∧ V.tmod 2 ≠ 0 then V + 1 else V := by
  have hn := real_fin fx
  obtain ⟨b1, b2⟩ := bx
  obtain ⟨fc, vc, fm, vm⟩ := v_c9
  rcases near_ref x with ⟨h, _⟩ | ⟨_, o1, o2, e1, e2, _, _, hv⟩
  · rw [hn] at h; cases h
  have k1 : D.order x c9 = some .lt := (order_lt fx fc).2 (by rw [vc]; grind)
  have k2 : D.order x m9 = some .gt := (order_gt fx fm).2 (by rw [vm]; grind)
  rw [k1] at e1
  rw [k2] at e2
  obtain rfl := Option.some.inj e1
  obtain rfl := Option.some.inj e2
  obtain ⟨V, o, c1, c2, c3, c4, c5⟩ := hv (by simp) (by simp) _ (.inr ⟨hn, rfl⟩)
  refine ⟨V, o, fun f hf => ?_, IntWalk.i64_in _ ⟨by omega, by omega⟩, c5⟩
  rcases hf with ⟨hf, _⟩ | ⟨_, rfl⟩
  · rw [hn] at hf; cases hf
  refine ⟨c1, fun d hd => ?_⟩
  rw [fsub_can] at hd
  have h1 := order_can d half
  rw [hd] at h1
  have h2 := order_can (fsub x (D.write ((D.read x).integral .down))) half
  rw [can_fsub] at h2
  exact h1.symm.trans (h2.trans c4)
/-- there and back by a point of whole metres: within two hundred thousandths of a degree -/
theorem grid_back {mid lon lat : Int} (l1 : -80000000000 ≤ lat) (l2 : lat ≤ 84000000000) (t1 : -3000000000 ≤ signP (dS mid lon)) (t2 : signP (dS mid lon) ≤ 3000000000) {x y : Nat} (fx : Fp.Fin x) (fy : Fp.Fin y)
    (hx : Wn (vl x - vl (stripX gA gF gS (uS gF lat (dS mid lon)) (vS gF lat (dS mid lon)))) (500001 / 1000000)) (hy : Wn (vl y - vl (stripY gA gF gS (uS gF lat (dS mid lon)) (vS gF lat (dS mid lon)))) (500001 / 1000000)) :
    inS (rS gA gF gS) x y = true ∧ (∀ r, LatOk (isoP gF) (fT gA gF gS x y) r → r - lat ≤ 20000 ∧ lat - r ≤ 20000) ∧
    (((if apartP (fLon gA gF gS mid x y) lon < 0 then -apartP (fLon gA gF gS mid x y) lon else apartP (fLon gA gF gS mid x y) lon : Int) : Rat)) * vl (cosP lat) ≤ 10700 := by
  have hR := v_gR.2
  exact (asked_grid l1 l2 t1 t2).back fx fy (hx.mono (by rw [hR]; grind)) (hy.mono (by rw [hR]; grind))
/-- the numbers of a place on its strip -/
theorem grid_at {mid lon lat : Int} (l1 : -80000000000 ≤ lat) (l2 : lat ≤ 84000000000) (t1 : -3000000000 ≤ signP (dS mid lon)) (t2 : signP (dS mid lon) ≤ 3000000000) :
    (Fp.Fin (stripX gA gF gS (uS gF lat (dS mid lon)) (vS gF lat (dS mid lon))) ∧ Wn (vl (stripX gA gF gS (uS gF lat (dS mid lon)) (vS gF lat (dS mid lon)))) 20000000) ∧
    (Fp.Fin (stripY gA gF gS (uS gF lat (dS mid lon)) (vS gF lat (dS mid lon))) ∧ Wn (vl (stripY gA gF gS (uS gF lat (dS mid lon)) (vS gF lat (dS mid lon)))) 20000000) := by
  have h := asked_grid l1 l2 t1 t2
  obtain ⟨fX, fY⟩ := h.fin
  obtain ⟨bX, bY⟩ := h.bound
  have hR := v_gR.2
  exact ⟨⟨fX, bX.mono (by rw [hR]; grind)⟩, ⟨fY, bY.mono (by rw [hR]; grind)⟩⟩
end Go.Proofs.YtcppgbhjbmfldaaGreatDoor

/- Walks: to the nearest whole number, from the middle to the even one; to a reference's number. -/
namespace Go.Proofs.YtcppgbhjbmfldaaGreatDoor
open Go.RowKit Go.Fp Go.Fp.Tri Go.Rel
set_option maxRecDepth 20000

/-- a place lies at most three degrees off its zone's middle -/
theorem zone_off (a : Int) : -3000000000 ≤ signP (dS ((6 * zoneP a - 183) * 1000000000) a) ∧ signP (dS ((6 * zoneP a - 183) * 1000000000) a) ≤ 3000000000 := by
  obtain ⟨h1, h2⟩ := sign_range a
  unfold zoneP dS
  unfold signP normP at *
  split <;> (split <;> omega)
set_option maxHeartbeats 4000000 in
theorem even_c {x : Nat} (fx : Fp.Fin x) (bx : Wn (vl x) 1000000000) (w : World) : Calls Tryz.prog 23 #[.float .f64 x] w (ExR (.int .i64 (nearV x)) w) := by
  obtain ⟨V, q, hf, hV, hv⟩ := even_ref fx bx
  have HF := Lib.hid (fun f hfi w => conv_run w (hf f hfi).1)
  have hq : ∀ f d, IntR .down x f → can d = fbin BinOp.sub (can x) (can f) → FloatKind.f64.format.order d 4602678819172646912 = some q := fun f d hfi hd => (hf f hfi).2 d (by rw [hd]; simp only [fbin])
  have HD := Lib.hid hq
  clear hf hq fx bx
  have hres : ∀ v, (v = if q = .gt ∨ q = .eq ∧ V.tmod 2 ≠ 0 then V + 1 else V) → (q = .lt ∧ v = V) ∨ (q = .eq ∧ V.tmod 2 = 0 ∧ v = V) ∨ (q = .eq ∧ ¬ V.tmod 2 = 0 ∧ v = V + 1) ∨ (q = .gt ∧ v = V + 1) := by
    intro v hv
    cases q <;> by_cases hm : V.tmod 2 = 0 <;> simp_all
  replace hres := hres _ hv
  clear hv
  generalize nearV x = v at *
  rcases hres with ⟨rfl, rfl⟩ | ⟨rfl, hm, rfl⟩ | ⟨rfl, hm, rfl⟩ | ⟨rfl, rfl⟩
  all_goals
    go_enter Tryz.func23, Tryz.ntmps23
    go_wp2_with (first
      | (go_at_call 48; go_must (refine (floor_c _ _).mono ?_; rintro e w1 ⟨f, rfl, hfi, hx⟩; have hc := HF.out f hfi))
      | (with_reducible refine upon_fl rfl ?_; go_must (intro d nd hd2; have hq := HD.out f d hfi hd2; clear hd2 hc hfi)))
    go_ret
    exact ⟨rfl, by repeat (first | exact hx | exact hx.of_drewN | refine Ext.drewN ?_ _)⟩
end Go.Proofs.YtcppgbhjbmfldaaGreatDoor
