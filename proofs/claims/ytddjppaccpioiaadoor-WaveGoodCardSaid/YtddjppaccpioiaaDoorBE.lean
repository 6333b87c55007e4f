/- The strip there and back: the place that comes back of a point a little off. -/
import Derived.Test.YtddjppaccpioiaaDoorZT
import Derived.Test.YtddjppaccpioiaaDoorU5
import Derived.Test.YtddjppaccpioiaaDoorUD
import Derived.Test.YtddjppaccpioiaaDoorZN
namespace Go.Proofs.YtddjppaccpioiaaDoor
open Go.Fp Go.Fp.Tri Go.RowKit
set_option maxRecDepth 20000
theorem bisW {g : Int → Nat} {X : Nat} {lo hi r : Int} (h : LatIs g X lo hi r) (hlt : lo < hi) : (leW (g r) X = true ∨ r = lo) ∧ (leW (g (r + 1)) X = false ∨ r + 1 = hi) := by
  induction h with
  | done h => exact ⟨.inr rfl, .inr (by omega)⟩
  | low h hl _ ih =>
    obtain ⟨a, b⟩ := ih (by omega)
    refine ⟨.inl ?_, b⟩
    rcases a with a | a
    · exact a
    · rw [a]; exact hl
  | high h hl _ ih =>
    obtain ⟨a, b⟩ := ih (by omega)
    refine ⟨a, ?_⟩
    rcases b with b | b
    · exact .inl b
    · rw [b]; exact .inl hl
theorem bisW_link {g g' : Int → Nat} {X : Nat} {r : Int} (h : LatOk g X r) (hg : ∀ m, -89000000000 ≤ m → m ≤ 89000000000 → g m = g' m) :
    -89000000000 ≤ r ∧ r ≤ 89000000000 ∧ (fle (g' r) X = true ∨ r = -89000000000) ∧ (fle (g' (r + 1)) X = false ∨ r = 89000000000) := by
  obtain ⟨b1, b2⟩ := LatIs.bounds h (by omega)
  obtain ⟨h1, h2⟩ := bisW h (by omega)
  refine ⟨b1, by omega, ?_, ?_⟩
  · rw [← hg r b1 (by omega)]; exact h1
  · by_cases hr : r = 89000000000
    · exact .inr hr
    · rw [← hg (r + 1) (by omega) (by omega)]
      rcases h2 with h2 | h2
      · exact .inl h2
      · omega
theorem iso_linkW (f : Nat) {m : Int} (h1 : -89000000000 ≤ m) (h2 : m ≤ 89000000000) : isoP f m = isoW (fsqrt (eccP f)) (sinP m) := by
  obtain ⟨fs, _⟩ := sin_in h1 h2
  unfold isoP isoW lnR ratW
  rw [fs.can, v_one.1.can, v_two.1.can]
theorem zIm_eq (f : Nat) (u : Int) (V I0 : Nat) : ∀ k, zIm tabA cA4 f u V I0 k = aIm f u V I0 k
  | 0 => rfl
  | k + 1 => by simp only [zIm, aIm, zIm_eq f u V I0 k]
theorem zRe_eq (f : Nat) (u : Int) (V I0 : Nat) : ∀ k, zRe tabA cA4 f u V I0 k = aRe f u V I0 k
  | 0 => rfl
  | k + 1 => by simp only [zRe, aRe, zRe_eq f u V I0 k]
theorem mW_eq {k : Nat} (hk : k < 4) {u : Int} (h1 : -1000000000000 ≤ u) (h2 : u ≤ 1000000000000) : mW k u = 2 * ((k : Int) + 1) * u := by
  refine IntWalk.i64_in _ ?_
  rcases k with _ | _ | _ | _ | k
  · constructor <;> omega
  · constructor <;> (simp; omega)
  · constructor <;> (simp; omega)
  · constructor <;> (simp; omega)
  · omega
theorem bIm_eq {f : Nat} {u : Int} (h1 : -1000000000000 ≤ u) (h2 : u ≤ 1000000000000) (V I0 : Nat) : ∀ k, k ≤ 4 → bIm f u V I0 k = cIm f u V I0 k
  | 0, _ => rfl
  | k + 1, hk => by simp only [bIm, cIm, bIm_eq h1 h2 V I0 k (by omega), mW_eq (show k < 4 by omega) h1 h2]
theorem bRe_eq {f : Nat} {u : Int} (h1 : -1000000000000 ≤ u) (h2 : u ≤ 1000000000000) (V I0 : Nat) : ∀ k, k ≤ 4 → bRe f u V I0 k = cRe f u V I0 k
  | 0, _ => rfl
  | k + 1, hk => by simp only [bRe, cRe, bRe_eq h1 h2 V I0 k (by omega), mW_eq (show k < 4 by omega) h1 h2]
theorem v_four : Fp.Fin 4616189618054758400 ∧ vl 4616189618054758400 = 4 := vl_const (s := false) (m := 4503599627370496) (k := 50) (by decide +kernel) (by decide +kernel)
theorem v_64 : Fp.Fin 4634204016564240384 ∧ vl 4634204016564240384 = 64 := vl_const (s := false) (m := 4503599627370496) (k := 46) (by decide +kernel) (by decide +kernel)
/-- the radius on paper -/
theorem rS_near {a f sc high : Nat} (g : Snd a f high) (fsc : Fp.Fin sc) (s1 : 99 / 1000 ≤ vl sc) (s2 : vl sc ≤ 10) : Fp.Fin (rS a f sc) ∧ 10000 ≤ vl (rS a f sc) ∧ vl (rS a f sc) ≤ 1000000000 := by
  have u1 : uu = 1 / 9007199254740992 := uu_eq
  obtain ⟨fa, a1, a2, ff, f1, f2, _⟩ := g
  have hn := nS_near ff f1 f2
  obtain ⟨b0, b1, _⟩ := nQ_bd f1 f2
  have bn : Wn (nQ f) (6 / 1000) := ⟨by grind, by grind⟩
  obtain ⟨p2, p3, p4⟩ := small_pw bn
  have h2 : Nr (n2S f) (nQ f * nQ f) (2 / 10000000000000000) := times_small hn hn bn bn
  have h4 : Nr (n4S f) (nQ f * nQ f * (nQ f * nQ f)) (2 / 10000000000000000) := times_small h2 h2 p2 p2
  have w1 : Wn (vl (nS f)) (7 / 1000) := (wn_add hn.2 bn).of (by grind) (by grind)
  have w2 : Wn (vl (n2S f)) (7 / 1000) := (wn_add h2.2 p2).of (by grind) (by grind)
  have w4 : Wn (vl (n4S f)) (7 / 1000) := (wn_add h4.2 p4).of (by grind) (by grind)
  unfold rS radS
  rw [fa.can, fsc.can, v_four.1.can, v_64.1.can, show Fp.can 4607182418800017408 = Fp.cOne from v_one.1.can]
  obtain ⟨g1, e1⟩ := addE v_one.1 hn.1 2 (by rw [v_one.2]; obtain ⟨_, _⟩ := w1; constructor <;> grind) (by grind)
  rw [v_one.2] at e1
  obtain ⟨x1, x2⟩ := e1
  obtain ⟨y1, y2⟩ := w1
  rw [u1] at x1 x2
  have d0 : 99 / 100 ≤ vl (fadd Fp.cOne (nS f)) := by grind
  have d1 : vl (fadd Fp.cOne (nS f)) ≤ 101 / 100 := by grind
  have q : Wn (vl a / vl (fadd Fp.cOne (nS f)) - vl a) (vl a * (2 / 100)) := by
    refine wn_quot (c := vl (fadd Fp.cOne (nS f))) (c0 := 99 / 100) (by grind) d0 ?_
    have e2 : (vl a / vl (fadd Fp.cOne (nS f)) - vl a) * vl (fadd Fp.cOne (nS f)) = vl a / vl (fadd Fp.cOne (nS f)) * vl (fadd Fp.cOne (nS f)) - vl a * vl (fadd Fp.cOne (nS f)) := by grind
    rw [e2, div_mul_c (ne_of_pos (by grind)) rfl]
    have := wn_mul (wn_pos (show 0 ≤ vl a by grind)) (show Wn (1 - vl (fadd Fp.cOne (nS f))) (1 / 100) from ⟨by grind, by grind⟩)
    refine this.of (by grind) (by grind)
  obtain ⟨g2, e2⟩ := divE fa g1 (ne_of_pos (by grind)) 11000000 (by obtain ⟨_, _⟩ := q; constructor <;> grind) (by grind)
  have A : 900000 ≤ vl (fdiv a (fadd Fp.cOne (nS f))) ∧ vl (fdiv a (fadd Fp.cOne (nS f))) ≤ 10500000 := by
    obtain ⟨_, _⟩ := q
    obtain ⟨_, _⟩ := e2
    rw [u1] at *
    constructor <;> grind
  obtain ⟨g3, e3⟩ := divE h2.1 v_four.1 (by rw [v_four.2]; grind) 1 (by rw [v_four.2]; obtain ⟨_, _⟩ := w2; constructor <;> grind) (by grind)
  obtain ⟨g4, e4⟩ := divE h4.1 v_64.1 (by rw [v_64.2]; grind) 1 (by rw [v_64.2]; obtain ⟨_, _⟩ := w4; constructor <;> grind) (by grind)
  rw [v_four.2] at e3
  rw [v_64.2] at e4
  obtain ⟨z1, z2⟩ := e3
  obtain ⟨z3, z4⟩ := e4
  obtain ⟨y3, y4⟩ := w2
  obtain ⟨y5, y6⟩ := w4
  rw [u1] at z1 z2 z3 z4
  obtain ⟨g5, e5⟩ := addE v_one.1 g3 2 (by rw [v_one.2]; constructor <;> grind) (by grind)
  rw [v_one.2] at e5
  obtain ⟨t1, t2⟩ := e5
  rw [u1] at t1 t2
  obtain ⟨g6, e6⟩ := addE g5 g4 2 (by constructor <;> grind) (by grind)
  obtain ⟨t3, t4⟩ := e6
  rw [u1] at t3 t4
  have B : 99 / 100 ≤ vl (fadd (fadd Fp.cOne (fdiv (n2S f) 4616189618054758400)) (fdiv (n4S f) 4634204016564240384)) ∧ vl (fadd (fadd Fp.cOne (fdiv (n2S f) 4616189618054758400)) (fdiv (n4S f) 4634204016564240384)) ≤ 101 / 100 := by constructor <;> grind
  have AB := mul_mono (show 0 ≤ vl (fdiv a (fadd Fp.cOne (nS f))) by grind) A.2 (show 0 ≤ vl (fadd (fadd Fp.cOne (fdiv (n2S f) 4616189618054758400)) (fdiv (n4S f) 4634204016564240384)) by grind) B.2
  have AB0 := mul_mono (show (0 : Rat) ≤ 900000 by grind) A.1 (show (0 : Rat) ≤ 99 / 100 by grind) B.1
  obtain ⟨g7, e7⟩ := mulE g2 g6 11000000 (by constructor <;> grind) (by grind)
  obtain ⟨t5, t6⟩ := e7
  rw [u1] at t5 t6
  generalize fmul (fdiv a (fadd Fp.cOne (nS f))) (fadd (fadd Fp.cOne (fdiv (n2S f) 4616189618054758400)) (fdiv (n4S f) 4634204016564240384)) = Q at *
  have Q0 : 880000 ≤ vl Q := by grind
  have Q1 : vl Q ≤ 10700000 := by grind
  have m1 := mul_mono (show (0 : Rat) ≤ 880000 by grind) Q0 (show (0 : Rat) ≤ 99 / 1000 by grind) s1
  have m2 := mul_mono (show 0 ≤ vl Q by grind) Q1 (show 0 ≤ vl sc by grind) s2
  obtain ⟨g8, e8⟩ := mulE g7 fsc 200000000 (by constructor <;> grind) (by grind)
  obtain ⟨t7, t8⟩ := e8
  rw [u1] at t7 t8
  exact ⟨g8, by grind, by grind⟩
end Go.Proofs.YtddjppaccpioiaaDoor
