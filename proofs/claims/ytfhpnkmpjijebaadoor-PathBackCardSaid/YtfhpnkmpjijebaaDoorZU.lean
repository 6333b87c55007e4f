/- The longitude's lengthening, as a float. -/
import Derived.Test.YtfhpnkmpjijebaaDoorZT
namespace Go.Fp.Tri
open Go.Fp
set_option maxRecDepth 20000
theorem big60 {B : Rat} (h : B ≤ 1000000000000000000000000000000000000000000000000000000000000) : B ≤ pw 1000 := by
  have a : pw 200 ≤ pw 1000 := pw_mono (by decide)
  have e : pw 200 = 1606938044258990275541962092341162602522202993782792835301376 := by have := pw_nat 200; exact this
  grind
theorem big60' {B : Rat} (h : B ≤ 1000000000000000000000000000000000000000000000000000000000000) : B ≤ pw 1022 := Rat.le_trans (big60 h) (pw_mono (by decide))
theorem mulC {x y : Nat} {X Y : Rat} (hx : Fin x) (hy : Fin y) (bx : Wn (vl x) X) (by1 : Wn (vl y) Y) (h : X * Y ≤ 1000000000000000000000000000000000000000000000000000000000000) : Fin (fmul x y) ∧ Wn (vl (fmul x y) - vl x * vl y) (uu * (X * Y) + eta) :=
  fmul_err hx hy (X * Y) (wn_mul bx by1) (big60' h)
theorem addC {x y : Nat} {X Y : Rat} (hx : Fin x) (hy : Fin y) (bx : Wn (vl x) X) (by1 : Wn (vl y) Y) (h : X + Y ≤ 1000000000000000000000000000000000000000000000000000000000000) : Fin (fadd x y) ∧ Wn (vl (fadd x y) - (vl x + vl y)) (uu * (X + Y) + eta) :=
  fadd_err hx hy (X + Y) (wn_add bx by1) (big60' h)
theorem subC {x y : Nat} {X Y : Rat} (hx : Fin x) (hy : Fin y) (bx : Wn (vl x) X) (by1 : Wn (vl y) Y) (h : X + Y ≤ 1000000000000000000000000000000000000000000000000000000000000) : Fin (fsub x y) ∧ Wn (vl (fsub x y) - (vl x - vl y)) (uu * (X + Y) + eta) :=
  fsub_err hx hy (X + Y) (wn_sub bx by1) (big60' h)
end Go.Fp.Tri
namespace Go.Proofs.YtfhpnkmpjijebaaDoor
open Go.Fp Go.Fp.Tri
set_option maxRecDepth 20000
set_option maxHeartbeats 8000000 in
/-- what is reckoned of a small number c and of one that may be great, whose product is small -/
theorem inner_gen {c cs ss cm : Nat} (fc : Fp.Fin c) (fcs : Fp.Fin cs) (fss : Fp.Fin ss) (fcm : Fp.Fin cm) (bcs : Wn (vl cs) (101 / 100)) (bss : Wn (vl ss) (101 / 100))
    (bc : rabs (vl c) ≤ 3 / 1000) (bcm : rabs (vl cm) ≤ 100000000000000000000) (bK : rabs (vl c) * rabs (vl cm) ≤ 1 / 100) :
    Fp.Fin (fmul (fmul c ss) (fadd cm (fmul (fmul c cs) (twiceP cm)))) ∧
    Wn (vl (fmul (fmul c ss) (fadd cm (fmul (fmul c cs) (twiceP cm)))) - vl ss * (vl c * vl cm + vl cs * (2 * (vl c * vl cm * (vl c * vl cm)) - vl c * vl c))) (1 / 10000000000000000) := by
  have u1 : uu = 1 / 9007199254740992 := uu_eq
  have eta0 := eta_pos
  have eta1 := eta_tiny
  obtain ⟨C, hC⟩ : ∃ C, C = rabs (vl c) := ⟨_, rfl⟩
  obtain ⟨Q, hQ⟩ : ∃ Q, Q = rabs (vl cm) := ⟨_, rfl⟩
  have wc : Wn (vl c) C := hC ▸ wn_rabs _
  have wm : Wn (vl cm) Q := hQ ▸ wn_rabs _
  rw [← hC] at bc bK
  rw [← hQ] at bcm bK
  have C0 := wc.nonneg
  have Q0 := wm.nonneg
  have QQ : Q * Q ≤ 10000000000000000000000000000000000000000 := by have := mul_mono Q0 bcm Q0 bcm; grind
  have QQ0 := rsq_nonneg Q
  have CQ0 := Rat.mul_nonneg C0 Q0
  have CC := mul_mono C0 bc C0 bc
  have KK := mul_mono CQ0 bK CQ0 bK
  -- twice the square less one
  obtain ⟨f1, e1⟩ := mulC fcm fcm wm wm (by grind)
  have b1 : Wn (vl (fmul cm cm)) (1001 / 1000 * (Q * Q) + 1) := (wn_add e1 (wn_mul wm wm)).of (by grind) (by rw [u1]; grind)
  obtain ⟨f2, e2⟩ := mulC v_c2.1 f1 (by rw [v_c2.2]; exact (⟨by grind, Rat.le_refl⟩ : Wn 2 2)) b1 (by grind)
  rw [v_c2.2] at e2
  have b2 : Wn (vl (fmul (can c2) (fmul cm cm))) (2003 / 1000 * (Q * Q) + 3) := (wn_add e2 (wn_mul (show Wn (2 : Rat) 2 from ⟨by grind, Rat.le_refl⟩) b1)).of (by grind) (by rw [u1]; grind)
  obtain ⟨f3, e3⟩ := subC f2 v_cc1.1 b2 (by rw [v_cc1.2]; exact (⟨by grind, Rat.le_refl⟩ : Wn 1 1)) (by grind)
  rw [v_cc1.2] at e3
  have eT : Wn (vl (twiceP cm) - (2 * (vl cm * vl cm) - 1)) (uu * (8 * (Q * Q) + 8)) := by
    have m := wn_mul (show Wn (2 : Rat) 2 from ⟨by grind, Rat.le_refl⟩) e1
    unfold twiceP
    exact (wn_add e3 (wn_add e2 m)).of (by grind) (by rw [u1]; grind)
  have fT : Fp.Fin (twiceP cm) := f3
  clear e1 e2 e3 f1 f2 f3 b1 b2
  have b0 : Wn (2 * (vl cm * vl cm) - 1) (2 * (Q * Q) + 1) := by have := (wn_mul wm wm).2; have := rsq_nonneg (vl cm); constructor <;> grind
  have bT : Wn (vl (twiceP cm)) (201 / 100 * (Q * Q) + 101 / 100) := (wn_add eT b0).of (by grind) (by rw [u1]; grind)
  generalize twiceP cm = T at *
  -- times c, times the arc's cosine
  obtain ⟨f4, e4⟩ := mulC fc fcs wc bcs (by grind)
  have b4 : Wn (vl (fmul c cs)) (102 / 100 * C + eta) := (wn_add e4 (wn_mul wc bcs)).of (by grind) (by rw [u1]; grind)
  have CQQ : C * (Q * Q) ≤ 1000000000000000000000000000000000000000 := by have := mul_mono C0 bc QQ0 QQ; grind
  have CQQ0 := Rat.mul_nonneg C0 QQ0
  have eQQ : eta * (Q * Q) ≤ 1 / 100000000000000000000000000 := by have := mul_mono (Rat.le_of_lt eta0) eta1 QQ0 QQ; grind
  have eQQ0 := Rat.mul_nonneg (Rat.le_of_lt eta0) QQ0
  have eC : eta * C ≤ 1 / 100000000000000000000000000 := by have := mul_mono (Rat.le_of_lt eta0) eta1 C0 bc; grind
  have eC0 := Rat.mul_nonneg (Rat.le_of_lt eta0) C0
  have prod1 : (102 / 100 * C + eta) * (201 / 100 * (Q * Q) + 101 / 100) ≤ 206 / 100 * (C * (Q * Q)) + 104 / 100 * C + 1 / 10000000000000000000000000 := by grind
  obtain ⟨f5, e5⟩ := mulC f4 fT b4 bT (by grind)
  have e5' : Wn (vl (fmul (fmul c cs) T) - vl c * vl cs * (2 * (vl cm * vl cm) - 1)) (uu * (13 * (C * (Q * Q)) + 13 * C) + 1 / 1000000000000000000000000) := by
    have m1 := wn_mul e4 bT
    have m2 := wn_mul (wn_mul wc bcs) eT
    refine (wn_add e5 (wn_add m1 m2)).of (by grind) ?_
    have k1 : (uu * (C * (101 / 100)) + eta) * (201 / 100 * (Q * Q) + 101 / 100) = uu * (101 / 100 * (201 / 100) * (C * (Q * Q)) + 101 / 100 * (101 / 100) * C) + 201 / 100 * (eta * (Q * Q)) + 101 / 100 * eta := by grind
    have k2 : C * (101 / 100) * (uu * (8 * (Q * Q) + 8)) = uu * (101 / 100 * 8 * (C * (Q * Q)) + 101 / 100 * 8 * C) := by grind
    rw [k1, k2]
    generalize C * (Q * Q) = cqq at *
    generalize eta * (Q * Q) = eqq at *
    generalize (102 / 100 * C + eta) * (201 / 100 * (Q * Q) + 101 / 100) = pr at *
    rw [u1]
    grind
  have b5 : Wn (vl (fmul (fmul c cs) T)) (203 / 100 * (C * (Q * Q)) + 102 / 100 * C + 1 / 100000000000000000000000) := by
    refine (wn_add e5' (wn_mul (wn_mul wc bcs) b0)).of (by grind) ?_
    have k : C * (101 / 100) * (2 * (Q * Q) + 1) = 202 / 100 * (C * (Q * Q)) + 101 / 100 * C := by grind
    rw [k, u1]
    grind
  clear e5 prod1 eT bT
  generalize fmul (fmul c cs) T = k2 at *
  obtain ⟨f6, e6⟩ := addC fcm f5 wm b5 (by grind)
  have e6' : Wn (vl (fadd cm k2) - (vl cm + vl c * vl cs * (2 * (vl cm * vl cm) - 1))) (uu * (Q + 16 * (C * (Q * Q)) + 15 * C) + 1 / 100000000000000000000000) := (wn_add e6 e5').of (by grind) (by rw [u1]; grind)
  have b6 : Wn (vl (fadd cm k2)) (1001 / 1000 * Q + 204 / 100 * (C * (Q * Q)) + 104 / 100 * C + 1 / 10000000000000000000000) := (wn_add e6 (wn_add wm b5)).of (by grind) (by rw [u1]; grind)
  clear e6 b5
  generalize fadd cm k2 = s1 at *
  obtain ⟨f7, e7⟩ := mulC fc fss wc bss (by grind)
  have b7 : Wn (vl (fmul c ss)) (102 / 100 * C + eta) := (wn_add e7 (wn_mul wc bss)).of (by grind) (by rw [u1]; grind)
  have eQ : eta * Q ≤ 1 / 100000000000000000000000000 := by have := mul_mono (Rat.le_of_lt eta0) eta1 Q0 bcm; grind
  have eQ0 := Rat.mul_nonneg (Rat.le_of_lt eta0) Q0
  have eCQQ : eta * (C * (Q * Q)) ≤ 1 / 100000000000000000000000000 := by have := mul_mono (Rat.le_of_lt eta0) eta1 CQQ0 CQQ; grind
  have eCQQ0 := Rat.mul_nonneg (Rat.le_of_lt eta0) CQQ0
  have x1 : C * (1001 / 1000 * Q + 204 / 100 * (C * (Q * Q)) + 104 / 100 * C + 1 / 10000000000000000000000) ≤ 103 / 10000 := by
    have : C * (C * (Q * Q)) = C * Q * (C * Q) := by grind
    have e : C * (1001 / 1000 * Q + 204 / 100 * (C * (Q * Q)) + 104 / 100 * C + 1 / 10000000000000000000000) = 1001 / 1000 * (C * Q) + 204 / 100 * (C * (C * (Q * Q))) + 104 / 100 * (C * C) + 1 / 10000000000000000000000 * C := by grind
    rw [e, this]
    grind
  have x2 : eta * (1001 / 1000 * Q + 204 / 100 * (C * (Q * Q)) + 104 / 100 * C + 1 / 10000000000000000000000) ≤ 1 / 1000000000000000000000000 := by
    have e : eta * (1001 / 1000 * Q + 204 / 100 * (C * (Q * Q)) + 104 / 100 * C + 1 / 10000000000000000000000) = 1001 / 1000 * (eta * Q) + 204 / 100 * (eta * (C * (Q * Q))) + 104 / 100 * (eta * C) + 1 / 10000000000000000000000 * eta := by grind
    rw [e]
    grind
  have x3 : C * (uu * (Q + 16 * (C * (Q * Q)) + 15 * C) + 1 / 100000000000000000000000) ≤ uu * (12 / 1000) + 1 / 10000000000000000000000000 := by
    have : C * (C * (Q * Q)) = C * Q * (C * Q) := by grind
    have e : C * (uu * (Q + 16 * (C * (Q * Q)) + 15 * C) + 1 / 100000000000000000000000) = uu * (C * Q + 16 * (C * (C * (Q * Q))) + 15 * (C * C)) + C * (1 / 100000000000000000000000) := by grind
    rw [e, this, u1]
    grind
  obtain ⟨B6, hB6⟩ : ∃ B6, B6 = 1001 / 1000 * Q + 204 / 100 * (C * (Q * Q)) + 104 / 100 * C + 1 / 10000000000000000000000 := ⟨_, rfl⟩
  rw [← hB6] at b6 x1 x2
  have x4 : (102 / 100 * C + eta) * B6 ≤ 11 / 1000 := by
    have : (102 / 100 * C + eta) * B6 = 102 / 100 * (C * B6) + eta * B6 := by grind
    rw [this]; grind
  obtain ⟨f8, e8⟩ := mulC f7 f6 b7 b6 (by grind)
  refine ⟨f8, ?_⟩
  have m1 := wn_mul e7 b6
  have m2 := wn_mul (wn_mul wc bss) e6'
  refine (wn_add e8 (wn_add m1 m2)).of (by grind) ?_
  have k1 : (uu * (C * (101 / 100)) + eta) * B6 = uu * (101 / 100) * (C * B6) + eta * B6 := by grind
  have k2 : C * (101 / 100) * (uu * (Q + 16 * (C * (Q * Q)) + 15 * C) + 1 / 100000000000000000000000) = 101 / 100 * (C * (uu * (Q + 16 * (C * (Q * Q)) + 15 * C) + 1 / 100000000000000000000000)) := by grind
  rw [k1, k2]
  generalize C * (uu * (Q + 16 * (C * (Q * Q)) + 15 * C) + 1 / 100000000000000000000000) = y1 at *
  generalize (102 / 100 * C + eta) * B6 = y2 at *
  generalize C * B6 = y3 at *
  generalize eta * B6 = y4 at *
  rw [u1] at *
  grind
set_option maxHeartbeats 4000000 in
/-- the lengthening -/
theorem long_gen {f c sa o ss cs cm : Nat} (ff : Fp.Fin f) (f0 : 0 ≤ vl f) (f1 : vl f ≤ 10001 / 1000000) (fc : Fp.Fin c) (fsa : Fp.Fin sa) (fo : Fp.Fin o) (fcs : Fp.Fin cs) (fss : Fp.Fin ss) (fcm : Fp.Fin cm) (bsa : Wn (vl sa) (101 / 100)) (bo : Wn (vl o) (32 / 10)) (bcs : Wn (vl cs) (101 / 100)) (bss : Wn (vl ss) (101 / 100))
    (bc : rabs (vl c) ≤ 3 / 1000) (bcm : rabs (vl cm) ≤ 100000000000000000000) (bK : rabs (vl c) * rabs (vl cm) ≤ 1 / 100) :
    Fp.Fin (longerP f c sa o ss cs cm) ∧ Wn (vl (longerP f c sa o ss cs cm) - (1 - vl c) * vl f * vl sa * (vl o + vl ss * (vl c * vl cm + vl cs * (2 * (vl c * vl cm * (vl c * vl cm)) - vl c * vl c)))) (2 / 1000000000000000) := by
  have u1 : uu = 1 / 9007199254740992 := uu_eq
  obtain ⟨g1, e1⟩ := inner_gen fc fcs fss fcm bcs bss bc bcm bK
  have wc : Wn (vl c) (3 / 1000) := (wn_rabs _).mono bc
  have wK : Wn (vl c * vl cm) (1 / 100) := by have := wn_rabs (vl c * vl cm); rw [rabs_mul] at this; exact this.mono bK
  have bE : Wn (vl ss * (vl c * vl cm + vl cs * (2 * (vl c * vl cm * (vl c * vl cm)) - vl c * vl c))) (11 / 1000) := by
    have a := wn_mul bcs (wn_sub (wn_mul (show Wn (2 : Rat) 2 from ⟨by grind, Rat.le_refl⟩) (wn_mul wK wK)) (wn_mul wc wc))
    exact (wn_mul bss (wn_add wK a)).mono (by grind)
  have hL : longerP f c sa o ss cs cm = fmul (fmul (fmul (fsub (can c1) c) f) sa) (fadd o (fmul (fmul c ss) (fadd cm (fmul (fmul c cs) (twiceP cm))))) := rfl
  rw [hL]
  generalize vl ss * (vl c * vl cm + vl cs * (2 * (vl c * vl cm * (vl c * vl cm)) - vl c * vl c)) = E at *
  generalize fmul (fmul c ss) (fadd cm (fmul (fmul c cs) (twiceP cm))) = k at *
  have bk : Wn (vl k) (12 / 1000) := (wn_add e1 bE).of (by grind) (by grind)
  obtain ⟨g2, e2⟩ := addE fo g1 _ (wn_add bo bk) (by grind)
  have b2 : Wn (vl (fadd o k)) (33 / 10) := (wn_add e2 (wn_add bo bk)).of (by grind) (by rw [u1]; grind)
  obtain ⟨g3, e3⟩ := subE v_cc1.1 fc (1003 / 1000) (by rw [v_cc1.2]; obtain ⟨_, _⟩ := wc; constructor <;> grind) (by grind)
  rw [v_cc1.2] at e3
  have bf : Wn (vl f) (10001 / 1000000) := ⟨by grind, f1⟩
  have b3 : Wn (vl (fsub (can c1) c)) (1004 / 1000) := by obtain ⟨_, _⟩ := wc; obtain ⟨_, _⟩ := e3; rw [u1] at *; constructor <;> grind
  obtain ⟨g4, e4⟩ := mulE g3 ff _ (wn_mul b3 bf) (by grind)
  have b4 : Wn (vl (fmul (fsub (can c1) c) f)) (101 / 10000) := (wn_add e4 (wn_mul b3 bf)).of (by grind) (by rw [u1]; grind)
  obtain ⟨g5, e5⟩ := mulE g4 fsa _ (wn_mul b4 bsa) (by grind)
  have b5 : Wn (vl (fmul (fmul (fsub (can c1) c) f) sa)) (103 / 10000) := (wn_add e5 (wn_mul b4 bsa)).of (by grind) (by rw [u1]; grind)
  obtain ⟨g6, e6⟩ := mulE g5 g2 _ (wn_mul b5 b2) (by grind)
  refine ⟨g6, ?_⟩
  have E1 : Wn (vl (fmul (fmul (fsub (can c1) c) f) sa) - (1 - vl c) * vl f * vl sa) (3 / 10000000000000000) := by
    have m1 := wn_mul (wn_mul e3 bf) bsa
    have m2 := wn_mul e4 bsa
    exact (wn_add e5 (wn_add m2 m1)).of (by grind) (by rw [u1]; grind)
  have E2 : Wn (vl (fadd o k) - (vl o + E)) (7 / 10000000000000000) := (wn_add e2 e1).of (by grind) (by rw [u1]; grind)
  have m1 := wn_mul E1 b2
  have m2 := wn_mul (show Wn ((1 - vl c) * vl f * vl sa) (104 / 10000) from (wn_sub b5 E1).of (by grind) (by grind)) E2
  exact (wn_add e6 (wn_add m1 m2)).of (by grind) (by rw [u1]; grind)
end Go.Proofs.YtfhpnkmpjijebaaDoor

/- The geodesic between two places at a difference of longitudes: the longitude's lengthening, as a float against what it ought to be. -/
namespace Go.Proofs.YtfhpnkmpjijebaaDoor
open Go.Fp Go.Fp.Tri
set_option maxRecDepth 20000
abbrev LHv (v : LineV) (x : Nat) : Nat := longerP (can v.f) (thirdP (can v.f) (v.ca x)) (v.sa x) (v.o x) (v.ss x) (v.cs x) (v.cm x)
/-- the azimuth's cosine squared, times the cosine of twice the middle's arc -/
abbrev mv (v : LineV) (x : Nat) : Rat := vl (v.ca x) * vl (v.cs x) - 2 * (vl v.su1 * vl v.su2)
structure LineC (v : LineV) (x : Nat) (κ : Rat) : Prop where
  fcm : Fp.Fin (v.cm x)
  fH : Fp.Fin (LHv v x)
  eκ : Wn (κ - vl v.f / 16 * (4 + vl v.f * (4 - 3 * vl (v.ca x)))) (1 / 10000000000000000)
  κ0 : Wn κ (26 / 10000)
  bcm : rabs (vl (v.cm x)) ≤ 100000000000000000000
  nca : vl (v.ca x) = 0 ∨ 1 / 4611686018427387904 ≤ rabs (vl (v.ca x))
  bM : Wn (vl (v.ca x) * vl (v.cm x)) (31 / 10)
  eM : Wn (vl (v.ss x) * (vl (v.ca x) * vl (v.cm x)) - vl (v.ss x) * mv v x) (2 / 10000000000)
  bm : Wn (mv v x) (3 : Rat)
  eH : Wn (vl (LHv v x) - (1 - κ * vl (v.ca x)) * vl v.f * vl (v.sa x) * ((oIv v x : Rat) * rho + vl (v.ss x) * (κ * mv v x + vl (v.cs x) * (2 * (κ * mv v x * (κ * mv v x)) - κ * vl (v.ca x) * (κ * vl (v.ca x)))))) (2 / 100000000000000)
theorem circ_sq {γ1 σ1 γ2 σ2 C S X : Rat} (n1 : Wn (γ1 * γ1 + σ1 * σ1 - 1) (1 / 100000000000000)) (n2 : Wn (γ2 * γ2 + σ2 * σ2 - 1) (1 / 100000000000000)) (n : Wn (C * C + S * S - 1) (1 / 1000000000000000))
    (bc1 : Wn γ1 (1001 / 1000)) (bs1 : Wn σ1 (9948 / 10000)) (bc2 : Wn γ2 (1001 / 1000)) (hX : X = σ1 * σ2 + γ1 * γ2 * C) :
    Wn (σ1 * σ1 + σ2 * σ2 - 2 * X * (σ1 * σ2) - (1 - X * X - (γ1 * γ2 * S) * (γ1 * γ2 * S))) (3 / 100000000000000) := by
  have bs1' : Wn (1 - σ1 * σ1) 1 := by have := rsq_nonneg σ1; have := (wn_mul bs1 bs1).2; constructor <;> grind
  exact (wn_add (wn_mul n1 (wn_mul bc2 bc2)) (wn_add (wn_mul n2 bs1') (wn_mul n (wn_mul (wn_mul bc1 bc2) (wn_mul bc1 bc2))))).of (by rw [hX]; grind) (by grind)
set_option maxHeartbeats 4000000 in
/-- the latitudes' sines against the azimuth's cosine -/
theorem sines_le {v : LineV} (h1 : RedOk v.f v.latA) (h2 : RedOk v.f v.latB) {x : Nat} (A : LineA v x) (B : LineB v x) :
    vl v.su1 * vl v.su1 * (vl (v.ss x) * vl (v.ss x)) ≤ vl (v.ca x) * (vl (v.ss x) * vl (v.ss x)) + 9 / 10000000000000 ∧
    vl v.su2 * vl v.su2 * (vl (v.ss x) * vl (v.ss x)) ≤ vl (v.ca x) * (vl (v.ss x) * vl (v.ss x)) + 9 / 10000000000000 := by
  have bc1 : Wn (vl v.cu1) (1001 / 1000) := h1.bc
  have bs1 : Wn (vl v.su1) (9948 / 10000) := h1.bs
  have bc2 : Wn (vl v.cu2) (1001 / 1000) := h2.bc
  have bs2 : Wn (vl v.su2) (9948 / 10000) := h2.bs
  have n1 : Wn (vl v.cu1 * vl v.cu1 + vl v.su1 * vl v.su1 - 1) (1 / 100000000000000) := h1.one
  have n2 : Wn (vl v.cu2 * vl v.cu2 + vl v.su2 * vl v.su2 - 1) (1 / 100000000000000) := h2.one
  have n := cis_one (nearP x)
  obtain ⟨_, _, _, et, bt, _, ew, bw, _, ecs, bcs, _⟩ := A
  obtain ⟨_, r0, r1, er1, one, _, esa, bsa, _, eca, _⟩ := B
  have bX : Wn (CSv v x) (102 / 100) := (wn_sub bcs ecs).of (by grind) (by grind)
  have q := circ_sq n1 n2 n bc1 bs1 bc2 (X := CSv v x) rfl
  generalize CSv v x = X at *
  generalize vl v.su1 = σ1 at *
  generalize vl v.su2 = σ2 at *
  generalize vl v.cu1 * vl v.cu2 * (cis (nearP x)).im = a at *
  generalize vl (v.ss x) = r at *
  generalize vl (v.sa x) = s at *
  generalize vl (v.ca x) = ca at *
  generalize vl (v.cs x) = cs at *
  have R2 : Wn (1 - X * X - r * r) (4 / 10000000000000) := by
    have := diff_sq ecs (bcs.mono (show (101 / 100 : Rat) ≤ 102 / 100 by grind)) bX
    exact (wn_sub this one).of (by grind) (by grind)
  have br : Wn r (1001 / 1000) := ⟨by grind, r1⟩
  have sr : Wn (s * r) (101 / 100) := (wn_mul bsa br).mono (by grind)
  have ba : Wn a (102 / 100) := (wn_sub sr esa).of (by grind) (by grind)
  have p := diff_sq esa (sr.mono (show (101 / 100 : Rat) ≤ 102 / 100 by grind)) ba
  have c := wn_mul eca (wn_mul br br)
  have key : Wn (1 - X * X - a * a - ca * (r * r)) (47 / 100000000000000) := (wn_add R2 (wn_sub p c)).of (by grind) (by grind)
  have u1 : (σ1 - X * σ2) * (σ1 - X * σ2) = (σ1 * σ1 + σ2 * σ2 - 2 * X * (σ1 * σ2) - (1 - X * X - a * a)) + (1 - X * X - a * a) - σ2 * σ2 * (1 - X * X) := by grind
  have u2 : (σ2 - X * σ1) * (σ2 - X * σ1) = (σ1 * σ1 + σ2 * σ2 - 2 * X * (σ1 * σ2) - (1 - X * X - a * a)) + (1 - X * X - a * a) - σ1 * σ1 * (1 - X * X) := by grind
  have w1 := rsq_nonneg (σ1 - X * σ2)
  have w2 := rsq_nonneg (σ2 - X * σ1)
  have v1 := wn_mul (wn_mul bs1 bs1) R2
  have v2 := wn_mul (wn_mul bs2 bs2) R2
  rw [u1] at w1
  rw [u2] at w2
  have e1 : σ1 * σ1 * (1 - X * X - r * r) = σ1 * σ1 * (1 - X * X) - σ1 * σ1 * (r * r) := by grind
  have e2 : σ2 * σ2 * (1 - X * X - r * r) = σ2 * σ2 * (1 - X * X) - σ2 * σ2 * (r * r) := by grind
  rw [e1] at v1
  rw [e2] at v2
  have := v1.1
  have := v2.1
  have := q.2
  have := key.2
  generalize σ1 * σ1 * (1 - X * X) = z1 at *
  generalize σ2 * σ2 * (1 - X * X) = z2 at *
  generalize σ1 * σ1 * (r * r) = z3 at *
  generalize σ2 * σ2 * (r * r) = z4 at *
  generalize ca * (r * r) = z5 at *
  generalize σ1 * σ1 + σ2 * σ2 - 2 * X * (σ1 * σ2) - (1 - X * X - a * a) = z6 at *
  generalize 1 - X * X - a * a = z7 at *
  exact ⟨by grind, by grind⟩
set_option maxHeartbeats 8000000 in
theorem line_c {v : LineV} (ff : Fp.Fin v.f) (f0 : 0 ≤ vl v.f) (f1 : vl v.f ≤ 10001 / 1000000) (h1 : RedOk v.f v.latA) (h2 : RedOk v.f v.latB) {x : Nat} (A : LineA v x) (B : LineB v x) : ∃ κ, LineC v x κ := by
  have u1 : uu = 1 / 9007199254740992 := uu_eq
  have eta0 := eta_pos
  have eta1 := eta_tiny
  have bs1 : Wn (vl v.su1) (9948 / 10000) := h1.bs
  have bs2 : Wn (vl v.su2) (9948 / 10000) := h2.bs
  have fs1 : Fp.Fin v.su1 := h1.fs
  have fs2 : Fp.Fin v.su2 := h2.fs
  obtain ⟨sl1, sl2⟩ := sines_le h1 h2 A B
  have hca : v.ca x = fsub c1 (fmul (v.sa x) (v.sa x)) := by unfold LineV.ca; rw [c1_can]
  have sa2 := rsq_nonneg (vl (v.sa x))
  have bsa2 : Wn (vl (v.sa x) * vl (v.sa x)) (100000003 / 100000000) := (wn_mul B.bsa B.bsa).mono (by grind)
  obtain ⟨fM, eM⟩ := mulE B.fsa B.fsa _ bsa2 (by grind)
  have nca : vl (v.ca x) = 0 ∨ 1 / 4611686018427387904 ≤ rabs (vl (v.ca x)) := by
    by_cases k : vl (fmul (v.sa x) (v.sa x)) < 7 / 10
    · right
      have e := B.eca
      have a : 29 / 100 ≤ vl (v.ca x) := by have := e.1; have := eM.2; have := eM.1; rw [u1] at *; grind
      have := (wn_rabs (vl (v.ca x))).2
      grind
    · rcases near_one fM (by grind) (by have := eM.2; have := bsa2.2; rw [u1] at *; grind) with e | e
      · left
        obtain ⟨g, h⟩ := fsub_err v_c1.1 fM 0 (by rw [v_c1.2, e]; constructor <;> grind) (big60' (by grind))
        rw [← hca] at g h
        rw [v_c1.2, e] at h
        exact vl_small g (h.of (by grind) (by grind))
      · right
        have a := rabs_nonneg (vl (fmul (v.sa x) (v.sa x)) - 1)
        obtain ⟨g, h⟩ := fsub_err v_c1.1 fM (rabs (vl (fmul (v.sa x) (v.sa x)) - 1)) (by rw [v_c1.2]; exact (wn_neg (wn_rabs (vl (fmul (v.sa x) (v.sa x)) - 1))).of (by grind) Rat.le_refl) (big60' (by
          have := rabs_le (show Wn (vl (fmul (v.sa x) (v.sa x)) - 1) 2 from by have := eM.1; have := eM.2; have := bsa2.2; rw [u1] at *; constructor <;> grind)
          grind))
        rw [← hca] at g h
        rw [v_c1.2] at h
        have b : rabs (vl (fmul (v.sa x) (v.sa x)) - 1) ≤ rabs (vl (v.ca x)) + (uu * rabs (vl (fmul (v.sa x) (v.sa x)) - 1) + eta) := by
          refine rabs_le ((wn_sub h (wn_rabs (vl (v.ca x)))).of (show _ = vl (fmul (v.sa x) (v.sa x)) - 1 by grind) (by grind))
        rw [u1] at b
        grind
  obtain ⟨fp1, ep1⟩ := mulE fs1 fs2 _ (wn_mul bs1 bs2) (by grind)
  have bp1 : Wn (vl (fmul v.su1 v.su2)) (98964 / 100000) := (wn_add ep1 (wn_mul bs1 bs2)).of (by grind) (by rw [u1]; grind)
  obtain ⟨fp, ep⟩ := mulE v_c2.1 fp1 (198 / 100) (by rw [v_c2.2]; obtain ⟨_, _⟩ := bp1; constructor <;> grind) (by grind)
  rw [v_c2.2] at ep
  have ep' : Wn (vl (fmul (can c2) (fmul v.su1 v.su2)) - 2 * (vl v.su1 * vl v.su2)) (1 / 1000000000000000) := by
    have m := wn_mul (show Wn (2 : Rat) 2 from ⟨by grind, Rat.le_refl⟩) ep1
    exact (wn_add ep m).of (by grind) (by rw [u1]; grind)
  have bp : Wn (vl (fmul (can c2) (fmul v.su1 v.su2))) 2 := by obtain ⟨_, _⟩ := bp1; obtain ⟨_, _⟩ := ep; rw [u1] at *; constructor <;> grind
  have bca : Wn (vl (v.ca x)) (1000001 / 1000000) := ⟨by have := B.ca0; grind, B.ca1⟩
  have bss12 := wn_mul bs1 bs2
  have bm : Wn (mv v x) (3 : Rat) := by
    have a := wn_mul bca A.bcs
    exact (wn_sub a (wn_mul (show Wn (2 : Rat) 2 from ⟨by grind, Rat.le_refl⟩) bss12)).mono (by grind)
  have r0 := B.r0
  have br : Wn (vl (v.ss x)) (1001 / 1000) := ⟨by grind, B.r1⟩
  have mid : Fp.Fin (v.cm x) ∧ rabs (vl (v.cm x)) ≤ 100000000000000000000 ∧ Wn (vl (v.ca x) * vl (v.cm x)) (31 / 10) ∧ Wn (vl (v.ss x) * (vl (v.ca x) * vl (v.cm x)) - vl (v.ss x) * mv v x) (2 / 10000000000) := by
    by_cases k : vl (v.ca x) = 0
    · have e : v.cm x = 0 := by
        unfold LineV.cm
        rw [if_pos ((order_eq B.fca v_0.1).2 (by rw [k, v_0.2]))]
      rw [e, v_0.2, k]
      rw [k] at sl1 sl2
      have q : Wn (vl (v.ss x) * (2 * (vl v.su1 * vl v.su2))) (2 / 10000000000) := by
        refine wn_div (show 0 < vl (v.ss x) by grind) ?_
        have a := rsq_nonneg ((vl v.su1 + vl v.su2) * vl (v.ss x))
        have b := rsq_nonneg ((vl v.su1 - vl v.su2) * vl (v.ss x))
        constructor <;> grind
      refine ⟨v_0.1, ?_, ⟨by grind, by grind⟩, ?_⟩
      · have : rabs 0 = 0 := by unfold rabs; rw [if_neg (show ¬ (0 : Rat) < 0 by grind)]
        rw [this]; grind
      · unfold mv
        rw [k]
        exact q.of (by grind) Rat.le_refl
    · have e : v.cm x = fsub (v.cs x) (fdiv (fmul (can c2) (fmul v.su1 v.su2)) (v.ca x)) := by
        unfold LineV.cm
        rw [if_neg (fun h => k (by have := (order_eq B.fca v_0.1).1 h; rwa [v_0.2] at this))]
      obtain ⟨g1, g2, g3⟩ := cm_gen A.fcs fp B.fca A.bcs bp (bca.mono (by grind)) (nca.resolve_left k)
      rw [← e] at g1 g2 g3
      have g4 : Wn (vl (v.ca x) * vl (v.cm x) - mv v x) (3 / 1000000000000000) := (wn_sub g3 ep').of (by unfold mv; grind) (by grind)
      refine ⟨g1, rabs_le g2, (wn_add g4 bm).of (by grind) (by grind), (wn_mul br g4).of (by grind) (by grind)⟩
  obtain ⟨fcm, bcm, bM, eMr⟩ := mid
  obtain ⟨κ, ft, et, eκ⟩ := third_gen ff f0 f1 B.fca (bca.mono (by grind)) nca
  have bf : Wn (vl v.f) (10001 / 1000000) := ⟨by grind, f1⟩
  have κ0 : Wn κ (26 / 10000) := by
    have a := wn_mul bf (wn_sub (show Wn (4 : Rat) 4 from ⟨by grind, Rat.le_refl⟩) (wn_mul (show Wn (3 : Rat) 3 from ⟨by grind, Rat.le_refl⟩) bca))
    have b := wn_mul (show Wn (vl v.f / 16) (62507 / 100000000) from by constructor <;> grind) (wn_add (show Wn (4 : Rat) 4 from ⟨by grind, Rat.le_refl⟩) a)
    exact (wn_add eκ b).of (by grind) (by grind)
  have bo : Wn (vl (v.o x)) (32 / 10) := by
    have w := rho_int (d := oIv v x) (B := 180000000000) (by have := B.o0; omega) B.o1
    have hb : ((180000000000 : Int) : Rat) * rho ≤ 315 / 100 := by
      have := rho_hi
      have e : ((180000000000 : Int) : Rat) = 180000000000 := rfl
      rw [e]; grind
    exact (wn_add B.eo (w.mono hb)).of (by grind) (by grind)
  have cbd : Wn (vl (thirdP v.f (v.ca x))) (3 / 1000) := by rw [et]; exact (wn_mul κ0 bca).mono (by grind)
  have cK : Wn (vl (thirdP v.f (v.ca x)) * vl (v.cm x)) (1 / 100) := by rw [et]; exact (wn_mul κ0 bM).of (by grind) (by grind)
  have cK' := rabs_le cK
  rw [rabs_mul] at cK'
  obtain ⟨fH, eH⟩ := long_gen ff f0 f1 ft B.fsa B.fo A.fcs B.fss fcm (B.bsa.mono (by grind)) bo A.bcs (br.mono (by grind)) (rabs_le cbd) bcm cK'
  have hf : can v.f = v.f := ff.can
  refine ⟨κ, fcm, by unfold LHv; rw [hf]; exact fH, eκ, κ0, bcm, nca, bM, eMr, bm, ?_⟩
  unfold LHv
  rw [hf]
  rw [et] at eH
  generalize hM : vl (v.ca x) * vl (v.cm x) = M at *
  rw [show κ * vl (v.ca x) * vl (v.cm x) = κ * M by rw [← hM]; grind] at eH
  generalize mv v x = m at *
  have bsa := B.bsa
  have eo := B.eo
  have bcs := A.bcs
  generalize vl (longerP v.f (thirdP v.f (v.ca x)) (v.sa x) (v.o x) (v.ss x) (v.cs x) (v.cm x)) = L at *
  generalize vl (v.ca x) = ca at *
  generalize vl (v.ss x) = r at *
  generalize vl (v.cs x) = cs at *
  generalize vl (v.sa x) = s at *
  generalize vl (v.o x) = o at *
  generalize (oIv v x : Rat) * rho = σ at *
  have bA : Wn ((1 - κ * ca) * vl v.f * s) (1004 / 100000) := by
    have a := wn_mul κ0 bca
    exact (wn_mul (wn_mul (show Wn (1 - κ * ca) (10027 / 10000) from by obtain ⟨_, _⟩ := a; constructor <;> grind) bf) bsa).mono (by grind)
  have two : Wn (2 : Rat) 2 := ⟨by grind, Rat.le_refl⟩
  have eMr : Wn (r * (M - m)) (2 / 10000000000) := eMr.of (by grind) Rat.le_refl
  have d1 := wn_mul κ0 eMr
  have d2 := wn_mul bcs (wn_mul two (wn_mul (wn_mul κ0 κ0) (wn_mul eMr (wn_add bM bm))))
  have D := wn_mul bA (wn_add eo (wn_add d1 d2))
  exact (wn_add eH D).of (by grind) (by grind)
end Go.Proofs.YtfhpnkmpjijebaaDoor

/- The geodesic at two differences of longitude: how far the longitude's lengthenings are apart. -/
namespace Go.Proofs.YtfhpnkmpjijebaaDoor
open Go.Fp Go.Fp.Tri
set_option maxRecDepth 20000
set_option maxHeartbeats 8000000 in
theorem lip_plain {f s s' ca ca' κ κ' σ σ' r r' cs cs' m m' P L L' D e1 e2 e3 : Rat} (f0 : 0 ≤ f) (f1 : f ≤ 10001 / 1000000) (bs : Wn s (100000001 / 100000000)) (bs' : Wn s' (100000001 / 100000000))
    (eca : Wn (ca - (1 - s * s)) (1 / 1000000000000000)) (eca' : Wn (ca' - (1 - s' * s')) (1 / 1000000000000000)) (bca : Wn ca (1000001 / 1000000)) (bca' : Wn ca' (1000001 / 1000000))
    (eκ : Wn (κ - f / 16 * (4 + f * (4 - 3 * ca))) (1 / 10000000000000000)) (eκ' : Wn (κ' - f / 16 * (4 + f * (4 - 3 * ca'))) (1 / 10000000000000000)) (bκ : Wn κ (26 / 10000)) (bκ' : Wn κ' (26 / 10000))
    (r0 : 94 / 10000 ≤ r) (r1 : r ≤ 1001 / 1000) (bcs : Wn cs (101 / 100)) (bcs' : Wn cs' (101 / 100)) (hm : m = ca * cs - P) (hm' : m' = ca' * cs' - P) (bm : Wn m 3) (bm' : Wn m' 3)
    (σ0 : 0 ≤ σ) (hK : σ ≤ 238 / 10 * r) (er : Wn (r' - r) e1) (ecs : Wn (cs' - cs) e2) (eσ : Wn (σ' - σ) e3) (eD : Wn ((s' - s) * r) D)
    (eL : Wn (L - (1 - κ * ca) * f * s * (σ + r * (κ * m + cs * (2 * (κ * m * (κ * m)) - κ * ca * (κ * ca))))) (2 / 100000000000000))
    (eL' : Wn (L' - (1 - κ' * ca') * f * s' * (σ' + r' * (κ' * m' + cs' * (2 * (κ' * m' * (κ' * m')) - κ' * ca' * (κ' * ca'))))) (2 / 100000000000000)) :
    Wn (L' - L) (10001 / 1000000 * (2402 / 100 * D + 1003 / 1000 * e3 + 81 / 10000 * e1 + 32 / 10000 * e2) + 5 / 100000000000000) := by
  have D0 := eD.nonneg
  have e10 := er.nonneg
  have e20 := ecs.nonneg
  have e30 := eσ.nonneg
  have rp : 0 < r := by grind
  have br : Wn r (1001 / 1000) := ⟨by grind, r1⟩
  have bf : Wn f (10001 / 1000000) := ⟨by grind, f1⟩
  have two : Wn (2 : Rat) 2 := ⟨by grind, Rat.le_refl⟩
  -- the cosine squared
  have dca : Wn (r * (ca' - ca)) (201 / 100 * D + 3 / 1000000000000000) := by
    have a := wn_mul eD (wn_add bs' bs)
    have b := wn_mul br (wn_sub eca' eca)
    exact (wn_sub b a).of (by grind) (by grind)
  have dκ : Wn (r * (κ' - κ)) (4 / 100000 * D + 1 / 1000000000000000) := by
    have a := wn_mul (wn_mul bf bf) dca
    have b := wn_mul br (wn_sub eκ' eκ)
    have c := wn_mul (show Wn (3 / 16 : Rat) (3 / 16) from ⟨by grind, Rat.le_refl⟩) a
    exact (wn_sub b c).of (by grind) (by grind)
  obtain ⟨q, hq⟩ : ∃ q, q = κ * ca := ⟨_, rfl⟩
  obtain ⟨q', hq'⟩ : ∃ q', q' = κ' * ca' := ⟨_, rfl⟩
  obtain ⟨p, hp⟩ : ∃ p, p = κ * m := ⟨_, rfl⟩
  obtain ⟨p', hp'⟩ : ∃ p', p' = κ' * m' := ⟨_, rfl⟩
  have bq : Wn q (261 / 100000) := hq ▸ (wn_mul bκ bca).mono (by grind)
  have bq' : Wn q' (261 / 100000) := hq' ▸ (wn_mul bκ' bca').mono (by grind)
  have bp : Wn p (78 / 10000) := hp ▸ (wn_mul bκ bm).mono (by grind)
  have bp' : Wn p' (78 / 10000) := hp' ▸ (wn_mul bκ' bm').mono (by grind)
  have dq : Wn (r * (q' - q)) (527 / 100000 * D + 2 / 1000000000000000) := by
    have a := wn_mul bκ' dca
    have b := wn_mul bca dκ
    exact (wn_add a b).of (by rw [hq, hq']; grind) (by grind)
  have dm : Wn (r * (m' - m)) (204 / 100 * D + 1003 / 1000 * e2 + 4 / 1000000000000000) := by
    have a := wn_mul bcs' dca
    have b := wn_mul (wn_mul br bca) ecs
    exact (wn_add a b).of (by rw [hm, hm']; grind) (by grind)
  have dp : Wn (r * (p' - p)) (55 / 10000 * D + 27 / 10000 * e2 + 4 / 1000000000000000) := by
    have a := wn_mul bκ' dm
    have b := wn_mul bm dκ
    exact (wn_add a b).of (by rw [hp, hp']; grind) (by grind)
  rw [← hp, ← hq] at eL
  rw [← hp', ← hq'] at eL'
  clear hp hp' hq hq' eκ eκ' eca eca' hm hm' dm dκ dca bm bm' bca bca' bκ bκ'
  obtain ⟨E, hE⟩ : ∃ E, E = 2 * (p * p) - q * q := ⟨_, rfl⟩
  obtain ⟨E', hE'⟩ : ∃ E', E' = 2 * (p' * p') - q' * q' := ⟨_, rfl⟩
  have bE : Wn E (13 / 100000) := hE ▸ (wn_sub (wn_mul two (wn_mul bp bp)) (wn_mul bq bq)).mono (by grind)
  have bE' : Wn E' (13 / 100000) := hE' ▸ (wn_sub (wn_mul two (wn_mul bp' bp')) (wn_mul bq' bq')).mono (by grind)
  have dE : Wn (r * (E' - E)) (3 / 10000 * D + 1 / 10000 * e2 + 1 / 1000000000000000) := by
    have a := wn_mul two (wn_mul dp (wn_add bp' bp))
    have b := wn_mul dq (wn_add bq' bq)
    exact (wn_sub a b).of (by rw [hE, hE']; grind) (by grind)
  rw [← hE] at eL
  rw [← hE'] at eL'
  clear hE hE'
  obtain ⟨U, hU⟩ : ∃ U, U = p + cs * E := ⟨_, rfl⟩
  obtain ⟨U', hU'⟩ : ∃ U', U' = p' + cs' * E' := ⟨_, rfl⟩
  have bU : Wn U (8 / 1000) := hU ▸ (wn_add bp (wn_mul bcs bE)).mono (by grind)
  have bU' : Wn U' (8 / 1000) := hU' ▸ (wn_add bp' (wn_mul bcs' bE')).mono (by grind)
  have dU : Wn (r * (U' - U)) (59 / 10000 * D + 31 / 10000 * e2 + 6 / 1000000000000000) := by
    have a := wn_mul bcs' dE
    have b := wn_mul (wn_mul br bE) ecs
    exact (wn_add dp (wn_add a b)).of (by rw [hU, hU']; grind) (by grind)
  rw [← hU] at eL
  rw [← hU'] at eL'
  clear hU hU' dE bE bE' dp bp bp'
  obtain ⟨A, hA⟩ : ∃ A, A = (1 - q) * s := ⟨_, rfl⟩
  obtain ⟨A', hA'⟩ : ∃ A', A' = (1 - q') * s' := ⟨_, rfl⟩
  have bA' : Wn A' (10027 / 10000) := hA' ▸ (wn_mul (show Wn (1 - q') (10026999 / 10000000) from by obtain ⟨_, _⟩ := bq'; constructor <;> grind) bs').mono (by grind)
  have dA : Wn (r * (A' - A)) (1008 / 1000 * D + 3 / 1000000000000000) := by
    have a := wn_mul (show Wn (1 - q) (10027 / 10000) from by obtain ⟨_, _⟩ := bq; constructor <;> grind) eD
    have b := wn_mul dq bs'
    exact (wn_sub a b).of (by rw [hA, hA']; grind) (by grind)
  have dAσ : Wn ((A' - A) * σ) (238 / 10 * (1008 / 1000 * D + 3 / 1000000000000000)) := by
    obtain ⟨τ, hτ⟩ : ∃ τ, τ = σ / r := ⟨_, rfl⟩
    have e : τ * r = σ := by rw [hτ]; exact Rat.div_mul_cancel (by grind)
    have bτ : Wn τ (238 / 10) := by
      refine wn_div rp ?_
      rw [e]
      exact ⟨by grind, hK⟩
    refine (wn_mul bτ dA).of ?_ Rat.le_refl
    rw [← e]; grind
  have dAr := wn_mul dA bU
  have dB : Wn ((σ' + r' * U') - (σ + r * U)) (e3 + 8 / 1000 * e1 + 59 / 10000 * D + 31 / 10000 * e2 + 6 / 1000000000000000) :=
    (wn_add eσ (wn_add (wn_mul er bU') dU)).of (by grind) (by grind)
  have tot : Wn (A' * (σ' + r' * U') - A * (σ + r * U)) (2402 / 100 * D + 1003 / 1000 * e3 + 81 / 10000 * e1 + 32 / 10000 * e2 + 1 / 10000000000000) :=
    (wn_add (wn_add dAσ dAr) (wn_mul bA' dB)).of (by grind) (by grind)
  have ff := wn_mul bf tot
  refine (wn_add (wn_sub eL' eL) ff).of (by rw [hA, hA']; grind) (by grind)
/-- two lengthenings, roughly -/
theorem lip_rough {v : LineV} (ff : Fp.Fin v.f) (f0 : 0 ≤ vl v.f) (f1 : vl v.f ≤ 10001 / 1000000) (h1 : RedOk v.f v.latA) (h2 : RedOk v.f v.latB) {x y : Nat} (A : LineA v x) (A' : LineA v y) (B : LineB v x) (B' : LineB v y)
    (hK : (oIv v x : Rat) * rho ≤ 238 / 10 * vl (v.ss x)) {D e1 e2 e3 : Rat} (er : Wn (vl (v.ss y) - vl (v.ss x)) e1) (ecs : Wn (vl (v.cs y) - vl (v.cs x)) e2) (eσ : Wn ((oIv v y : Rat) * rho - (oIv v x : Rat) * rho) e3) (eD : Wn ((vl (v.sa y) - vl (v.sa x)) * vl (v.ss x)) D) :
    Wn (vl (LHv v y) - vl (LHv v x)) (10001 / 1000000 * (2402 / 100 * D + 1003 / 1000 * e3 + 81 / 10000 * e1 + 32 / 10000 * e2) + 5 / 100000000000000) := by
  obtain ⟨κ, c⟩ := line_c ff f0 f1 h1 h2 A B
  obtain ⟨κ', c'⟩ := line_c ff f0 f1 h1 h2 A' B'
  have σ0 : 0 ≤ (oIv v x : Rat) * rho := Rat.mul_nonneg (by exact_mod_cast B.o0) (Rat.le_of_lt rho_pos)
  exact lip_plain f0 f1 B.bsa B'.bsa B.eca B'.eca ⟨by have := B.ca0; grind, B.ca1⟩ ⟨by have := B'.ca0; grind, B'.ca1⟩ c.eκ c'.eκ c.κ0 c'.κ0 B.r0 B.r1 A.bcs A'.bcs rfl rfl c.bm c'.bm σ0 hK er ecs eσ eD c.eH c'.eH
theorem lip_crude {v : LineV} (ff : Fp.Fin v.f) (f0 : 0 ≤ vl v.f) (f1 : vl v.f ≤ 10001 / 1000000) (h1 : RedOk v.f v.latA) (h2 : RedOk v.f v.latB) {x y : Nat} (A : LineA v x) (A' : LineA v y) (B : LineB v x) (B' : LineB v y)
    (hK : (oIv v x : Rat) * rho ≤ 238 / 10 * vl (v.ss x)) {d : Int} (hd : Wn ((nearP y - nearP x : Int) : Rat) (d : Rat)) (hd2 : d ≤ 2000000000) :
    Wn (vl (LHv v y) - vl (LHv v x)) (4986 / 10000 * ((d : Rat) * rho) + 4 / 1000000000000) := by
  have d1 : -d ≤ nearP y - nearP x := by
    have := hd.1
    exact_mod_cast this
  have d2 : nearP y - nearP x ≤ d := by exact_mod_cast hd.2
  have ch := cis_chord (a := nearP x) d1 d2 (by omega)
  rw [show nearP x + (nearP y - nearP x) = nearP y by omega] at ch
  have b : (d : Rat) * rho ≤ 3491 / 100000 := by
    have := Rat.mul_le_mul_of_nonneg_right (castle hd2) (Rat.le_of_lt rho_pos)
    have := rho_hi
    have e : ((2000000000 : Int) : Rat) = 2000000000 := rfl
    rw [e] at *; grind
  obtain ⟨er, ecs, eσ, eD⟩ := line_two h1 h2 A A' B B' ch (by grind)
  refine (lip_rough ff f0 f1 h1 h2 A A' B B' hK er ecs eσ eD).mono ?_
  have := hd.nonneg
  have := Rat.mul_nonneg this (Rat.le_of_lt rho_pos)
  grind
theorem lip_fine {v : LineV} (ff : Fp.Fin v.f) (f0 : 0 ≤ vl v.f) (f1 : vl v.f ≤ 10001 / 1000000) (h1 : RedOk v.f v.latA) (h2 : RedOk v.f v.latB) {x y : Nat} (A : LineA v x) (A' : LineA v y) (B : LineB v x) (B' : LineB v y)
    (hK : (oIv v x : Rat) * rho ≤ 238 / 10 * vl (v.ss x)) {d : Int} (hd : Wn ((nearP y - nearP x : Int) : Rat) (d : Rat)) (hd2 : d ≤ 3) :
    Wn (vl (LHv v y) - vl (LHv v x)) (2549 / 10000 * ((d : Rat) * rho) + 34 / 10000000000000) := by
  have d1 : -d ≤ nearP y - nearP x := by
    have := hd.1
    exact_mod_cast this
  have d2 : nearP y - nearP x ≤ d := by exact_mod_cast hd.2
  have ch := cis_chord (a := nearP x) d1 d2 (by omega)
  rw [show nearP x + (nearP y - nearP x) = nearP y by omega] at ch
  have b : (d : Rat) * rho ≤ 53 / 1000000000000 := by
    have := Rat.mul_le_mul_of_nonneg_right (castle hd2) (Rat.le_of_lt rho_pos)
    have := rho_hi
    have e : ((3 : Int) : Rat) = 3 := rfl
    rw [e] at *; grind
  obtain ⟨er, ecs, eσ, _⟩ := line_two h1 h2 A A' B B' ch (by grind)
  have eD := line_few h1 h2 A A' B B' (d := nearP y - nearP x) (b := (d : Rat) * rho) (by omega) (by omega) (by omega) (rho_int d1 d2)
  refine (lip_rough ff f0 f1 h1 h2 A A' B B' hK er ecs eσ eD).mono ?_
  have := hd.nonneg
  have := Rat.mul_nonneg this (Rat.le_of_lt rho_pos)
  grind
end Go.Proofs.YtfhpnkmpjijebaaDoor

/- Two places' points on the ball of reduced latitudes: neither near each other nor near opposite. -/
namespace Go.Fp.Tri
open Go.Fp
set_option maxRecDepth 20000
theorem cast_nn {j : Int} (h : 0 ≤ j) : 0 ≤ (j : Rat) := by exact_mod_cast h
/-- the sine of an angle up to half a turn -/
theorem im_pos {a j : Int} (hj : a + j = 180000000000) (h0 : 0 ≤ a) (h1 : 0 ≤ j) : -(3 / 100000000000000) ≤ (cis a).im ∧ (cis a).im ≤ 1325 / 1000 * ((j : Rat) * rho) + 2 / 1000000000000000000 := by
  have p := rho_pos
  have x0 : 0 ≤ (j : Rat) * rho := Rat.mul_nonneg (cast_nn h1) (Rat.le_of_lt p)
  by_cases k : j < 45000000000
  · have e := cis_pi (-j)
    rw [show -j + 180000000000 = a by omega] at e
    have s := cis_small (a := -j) (by omega) (by omega)
    have w := (rho_int (d := j) (B := 45000000000) (by omega) (by omega)).mono (arg_bd (r := 45000000000) (by omega) (by omega)).2
    have ne : ((-j : Int) : Rat) * rho = -((j : Rat) * rho) := by rw [Rat.intCast_neg]; grind
    have im : (cis a).im = S ((j : Rat) * rho) := by
      rw [e, s, ne]
      show -(S (-((j : Rat) * rho))) = _
      rw [S_odd]; grind
    rw [im]
    generalize (j : Rat) * rho = x at *
    have lo := S_low x0 (by have := w.2; grind)
    have hi := lip_S w (show Wn (0 : Rat) (7855 / 10000) from ⟨by grind, by grind⟩) (D := x) (by rw [show x - 0 = x by grind]; exact wn_pos x0)
    have S0 : S 0 = 0 := by simp only [S, PS, pev]; grind
    rw [S0] at hi
    have := hi.2
    exact ⟨by grind, by grind⟩
  · have big : 104 / 100 ≤ 1325 / 1000 * ((j : Rat) * rho) := by
      have := Rat.mul_le_mul_of_nonneg_right (castle (show (45000000000 : Int) ≤ j by omega)) (Rat.le_of_lt p)
      have := rho_lo
      have e : ((45000000000 : Int) : Rat) = 45000000000 := rfl
      rw [e] at *; grind
    have b := (cis_bd a).im.2
    obtain ⟨_, ⟨_, e1⟩⟩ := cis_near a
    unfold tol at e1
    refine ⟨?_, by grind⟩
    clear big
    by_cases i : a ≤ 90000000000
    · obtain ⟨⟨_, e2⟩, _⟩ := trig_lat (a := a) (by omega) i
      have := sI_nonneg h0 i
      unfold tol at e2
      have := e1.2
      have := e2.1
      grind
    · obtain ⟨⟨_, e2⟩, _⟩ := trig_half (a := a) (by omega) (by omega)
      have o := (sI_odd (m := j) (by omega) (by omega)).1
      rw [show a - 180000000000 = -j by omega] at e2
      have := sI_nonneg (m := j) (by omega) (by omega)
      unfold tol at e2
      have := e1.2
      have := e2.1
      have := o.2
      grind
/-- a direction: one or minus one -/
def Dir (g : Int) : Prop := g = 1 ∨ g = -1
theorem im_dir {g m j : Int} (hg : Dir g) (hj : g * m + j = 180000000000) (h0 : 0 ≤ g * m) (h1 : 0 ≤ j) : -(31 / 10000000000000) ≤ (g : Rat) * (cis m).im ∧ (g : Rat) * (cis m).im ≤ 1325 / 1000 * ((j : Rat) * rho) + 31 / 10000000000000 := by
  rcases hg with rfl | rfl
  · obtain ⟨a, b⟩ := im_pos (a := m) (j := j) (by omega) (by omega) h1
    have e : ((1 : Int) : Rat) = 1 := rfl
    rw [e]
    exact ⟨by grind, by grind⟩
  · obtain ⟨a, b⟩ := im_pos (a := -m) (j := j) (by omega) (by omega) h1
    have n := (cis_neg (-m)).im
    simp at n
    have e : ((-1 : Int) : Rat) = -1 := rfl
    rw [e]
    have := n.1
    have := n.2
    exact ⟨by grind, by grind⟩
/-- farther round, the cosine is less, or next to nothing -/
theorem re_dir {g a j : Int} (hg : Dir g) (h0 : 0 ≤ g * a) (h1 : g * a ≤ 180000000000) (j0 : 0 ≤ j) (j1 : j ≤ 4000000000) : (cis (a + g * j)).re ≤ (cis a).re + 7 / 1000000000000 ∨ (cis (a + g * j)).re ≤ 7 / 1000000000000 := by
  have p := rho_pos
  have ad := (cis_add a (g * j)).re
  simp at ad
  have im := (im_dir (j := 180000000000 - g * a) hg (by omega) h0 (by omega)).1
  have x0 : 0 ≤ (j : Rat) * rho := Rat.mul_nonneg (cast_nn j0) (Rat.le_of_lt p)
  have xb : (j : Rat) * rho ≤ 7 / 100 := by
    have := Rat.mul_le_mul_of_nonneg_right (castle j1) (Rat.le_of_lt p)
    have := rho_hi
    have e : ((4000000000 : Int) : Rat) = 4000000000 := rfl
    rw [e] at *; grind
  have cd : cis (g * j) = cs (((g * j : Int) : Rat) * rho) := by rcases hg with rfl | rfl <;> exact cis_small (by omega) (by omega)
  have sx := S_low x0 (by grind)
  have one := cs_one (wn_pos x0) (by grind)
  have lo := C_low (x := (j : Rat) * rho) ⟨by grind, by grind⟩
  have sC := one_SC (x := (j : Rat) * rho) ⟨by grind, by grind⟩
  have cu : C ((j : Rat) * rho) ≤ 1 + 1 / 1000000000000000 := by
    refine le_of_sq (by grind) ?_
    have := rsq_nonneg (S ((j : Rat) * rho))
    have := sC.2
    grind
  have sl : S ((j : Rat) * rho) ≤ 1 / 10 := by
    have := one.im.2
    simp [cs] at this
    grind
  have re : (cs (((g * j : Int) : Rat) * rho)).re = C ((j : Rat) * rho) ∧ (cs (((g * j : Int) : Rat) * rho)).im = (g : Rat) * S ((j : Rat) * rho) := by
    rcases hg with rfl | rfl
    · rw [Int.one_mul]
      have e : ((1 : Int) : Rat) = 1 := rfl
      rw [e]
      exact ⟨rfl, by show S _ = _; grind⟩
    · have e : ((-1 : Int) : Rat) = -1 := rfl
      have e2 : ((-1 * j : Int) : Rat) * rho = -((j : Rat) * rho) := by rw [show -1 * j = -j by omega, Rat.intCast_neg]; grind
      rw [e, e2]
      exact ⟨by show C _ = _; exact C_even _, by show S _ = _; rw [S_odd]; grind⟩
  rw [cd, re.1, re.2] at ad
  generalize C ((j : Rat) * rho) = cj at *
  generalize S ((j : Rat) * rho) = sj at *
  have s0 : 0 ≤ sj := by grind
  have prod : -(4 / 10000000000000) ≤ (cis a).im * ((g : Rat) * sj) := by
    have := Rat.mul_le_mul_of_nonneg_right im s0
    grind
  have bC := (cis_bd a).re
  generalize (cis a).im * ((g : Rat) * sj) = z at *
  have := ad.2
  rcases Rat.le_total (a := 0) (b := (cis a).re) with k | k
  · left
    have := Rat.mul_le_mul_of_nonneg_left cu k
    have := bC.2
    grind
  · right
    have := Rat.mul_le_mul_of_nonneg_right lo (show 0 ≤ -(cis a).re by grind)
    grind
end Go.Fp.Tri
namespace Go.Proofs.YtfhpnkmpjijebaaDoor
open Go.Fp Go.Fp.Tri
set_option maxRecDepth 20000
set_option maxHeartbeats 4000000 in
/-- on the ball of reduced latitudes two places are nearly as far apart as on that of latitudes -/
theorem red_plain {f c1 s1 c2 s2 D1 D2 C1 S1 C2 S2 z w : Rat} (f0 : 0 ≤ f) (f1 : f ≤ 10001 / 1000000) (n1 : Wn (C1 * C1 + S1 * S1 - 1) (1 / 1000000000000000)) (n2 : Wn (C2 * C2 + S2 * S2 - 1) (1 / 1000000000000000)) (nz : Wn (z * z + w * w - 1) (1 / 1000000000000000))
    (d10 : 989 / 1000 ≤ D1) (d11 : D1 ≤ 10001 / 10000) (d20 : 989 / 1000 ≤ D2) (d21 : D2 ≤ 10001 / 10000)
    (dd1 : Wn (D1 * D1 - (C1 * C1 + (1 - f) * S1 * ((1 - f) * S1))) (8 / 100000000000000)) (dd2 : Wn (D2 * D2 - (C2 * C2 + (1 - f) * S2 * ((1 - f) * S2))) (8 / 100000000000000))
    (dc1 : Wn (D1 * c1 - C1) (2 / 100000000000000)) (ds1 : Wn (D1 * s1 - (1 - f) * S1) (2 / 100000000000000)) (dc2 : Wn (D2 * c2 - C2) (2 / 100000000000000)) (ds2 : Wn (D2 * s2 - (1 - f) * S2) (2 / 100000000000000))
    (bC1 : Wn C1 (1001 / 1000)) (bS1 : Wn S1 (1001 / 1000)) (bC2 : Wn C2 (1001 / 1000)) (bS2 : Wn S2 (1001 / 1000)) (bz : Wn z (1001 / 1000)) {g : Rat} (hg : g = 1 ∨ g = -1) (h0 : 1 / 10000 ≤ 1 + g * (S1 * S2 + C1 * C2 * z)) :
    979 / 1000 * (1 + g * (S1 * S2 + C1 * C2 * z)) ≤ 1 + g * (s1 * s2 + c1 * c2 * z) := by
  obtain ⟨X, hX⟩ : ∃ X, X = S1 * S2 + C1 * C2 * z := ⟨_, rfl⟩
  obtain ⟨Y, hY⟩ : ∃ Y, Y = s1 * s2 + c1 * c2 * z := ⟨_, rfl⟩
  obtain ⟨e, he⟩ : ∃ e, e = 1 - (1 - f) * (1 - f) := ⟨_, rfl⟩
  have e0 : 0 ≤ e := by have := Rat.mul_nonneg f0 (show 0 ≤ 2 - f by grind); grind
  have e1 : e ≤ 20002 / 1000000 := by have := rsq_nonneg f; grind
  rw [← hX] at h0 ⊢
  rw [← hY]
  have bf : Wn (1 - f) 1 := ⟨by grind, by grind⟩
  have bD1 : Wn D1 (10001 / 10000) := ⟨by grind, d11⟩
  have bD2 : Wn D2 (10001 / 10000) := ⟨by grind, d21⟩
  -- the ball's cosine
  have hYX : Wn (D1 * D2 * Y - (X - e * (S1 * S2))) (9 / 100000000000000) := by
    have b1 : Wn (D1 * s1) (1002 / 1000) := (wn_add ds1 (wn_mul bf bS1)).of (by grind) (by grind)
    have b2 : Wn (D1 * c1) (1002 / 1000) := (wn_add dc1 bC1).of (by grind) (by grind)
    have a1 := wn_add (wn_mul b1 ds2) (wn_mul ds1 (wn_mul bf bS2))
    have a2 := wn_mul (wn_add (wn_mul b2 dc2) (wn_mul dc1 bC2)) bz
    exact (wn_add a1 a2).of (by rw [hX, hY, he]; grind) (by grind)
  have q1 : Wn (D1 * D1 - (1 - e * (S1 * S1))) (82 / 1000000000000000) := (wn_add dd1 n1).of (by rw [he]; grind) (by grind)
  have q2 : Wn (D2 * D2 - (1 - e * (S2 * S2))) (82 / 1000000000000000) := (wn_add dd2 n2).of (by rw [he]; grind) (by grind)
  have bss1 := (wn_mul bS1 bS1).2
  have bss2 := (wn_mul bS2 bS2).2
  -- how far the two divisors are apart
  obtain ⟨P, hP⟩ : ∃ P, P = (S1 + S2) * (S1 + S2) := ⟨_, rfl⟩
  obtain ⟨M, hM⟩ : ∃ M, M = (S1 - S2) * (S1 - S2) := ⟨_, rfl⟩
  have P0 : 0 ≤ P := hP ▸ rsq_nonneg _
  have M0 : 0 ≤ M := hM ▸ rsq_nonneg _
  have PM : P + M ≤ 401 / 100 := by rw [hP, hM]; grind
  have dif : (D1 - D2) * (D1 - D2) ≤ 27 / 100 * (e * e * (P * M)) + 2 / 10000000000000 := by
    have a : Wn ((D1 - D2) * (D1 + D2) + e * ((S1 + S2) * (S1 - S2))) (164 / 1000000000000000) := (wn_sub q1 q2).of (by grind) (by grind)
    obtain ⟨u, hu⟩ : ∃ u, u = e * ((S1 + S2) * (S1 - S2)) := ⟨_, rfl⟩
    have bu : Wn u (1 / 10) := hu ▸ (wn_mul (show Wn e (20002 / 1000000) from ⟨by grind, e1⟩) (wn_mul (wn_add bS1 bS2) (wn_sub bS1 bS2))).mono (by grind)
    have uu2 : u * u = e * e * (P * M) := by rw [hu, hP, hM]; grind
    rw [← hu] at a
    rw [← uu2]
    have b := wn_mul a (wn_sub a (wn_mul (show Wn (2 : Rat) 2 from ⟨by grind, Rat.le_refl⟩) bu))
    have sq : ((D1 - D2) * (D1 + D2)) * ((D1 - D2) * (D1 + D2)) ≤ u * u + 4 / 100000000000000 := by
      have := (b.of (show _ = ((D1 - D2) * (D1 + D2)) * ((D1 - D2) * (D1 + D2)) - u * u by grind) Rat.le_refl).2
      grind
    have big : 1978 / 1000 * (1978 / 1000) ≤ (D1 + D2) * (D1 + D2) := sq_le_sq (by grind) (by grind)
    have m := Rat.mul_le_mul_of_nonneg_left big (rsq_nonneg (D1 - D2))
    have U0 := rsq_nonneg u
    grind
  have eeb : e * e ≤ 401 / 1000000 := by have := mul_mono e0 e1 e0 e1; grind
  have DD : D1 * D2 = 1 - e * (S1 * S1 + S2 * S2) / 2 + ((D1 * D1 - (1 - e * (S1 * S1))) + (D2 * D2 - (1 - e * (S2 * S2)))) / 2 - (D1 - D2) * (D1 - D2) / 2 := by grind
  have b12 : D1 * D2 ≤ 10003 / 10000 := by have := mul_mono (show 0 ≤ D1 by grind) d11 (show 0 ≤ D2 by grind) d21; grind
  have b12' : 978 / 1000 ≤ D1 * D2 := by have := mul_mono (show (0 : Rat) ≤ 989 / 1000 by grind) d10 (show (0 : Rat) ≤ 989 / 1000 by grind) d20; grind
  have sum : Wn (S1 * S1 + S2 * S2 + (C1 * C1 + C2 * C2 * (z * z + w * w)) - 2) (4 / 1000000000000000) := by
    have := wn_add (wn_add n1 n2) (wn_mul (wn_mul bC2 bC2) nz)
    exact this.of (by grind) (by grind)
  have k : ∀ T N : Rat, 0 ≤ N → N ≤ 401 / 100 → e * e * (P * M) ≤ 401 / 100 * (401 / 1000000) * T → 0 ≤ T → T ≤ 2 * (1 + g * X) + 1 / 100000000000000 → D1 * D2 * (1 + g * Y) = D1 * D2 + g * (X - e * (S1 * S2)) + g * (D1 * D2 * Y - (X - e * (S1 * S2))) → T = S1 * S1 + S2 * S2 + 2 * g * (S1 * S2) →
      979 / 1000 * (1 + g * X) ≤ 1 + g * Y := by
    intro T N N0 N1 h1 T0 h2 h3 h4
    have gw : Wn (g * (D1 * D2 * Y - (X - e * (S1 * S2)))) (9 / 100000000000000) := by rcases hg with rfl | rfl <;> obtain ⟨_, _⟩ := hYX <;> constructor <;> grind
    have eT := Rat.mul_le_mul_of_nonneg_right e1 T0
    have lo : D1 * D2 * (1 + g * Y) ≥ (1 + g * X) - e * T / 2 - (27 / 100 * (401 / 100 * (401 / 1000000) * T) + 2 / 10000000000000) / 2 - 3 / 10000000000000 := by
      rw [h3, DD, h4]
      have := gw.1
      have := q1.1
      have := q2.1
      generalize g * (D1 * D2 * Y - (X - e * (S1 * S2))) = y1 at *
      grind
    have fin : D1 * D2 * (1 + g * Y) ≥ 9795 / 10000 * (1 + g * X) := by grind
    rcases Rat.le_total (a := 979 / 1000 * (1 + g * X)) (b := 1 + g * Y) with j | j
    · exact j
    · exfalso
      have := Rat.mul_le_mul_of_nonneg_left j (show 0 ≤ D1 * D2 by grind)
      have := Rat.mul_le_mul_of_nonneg_right b12 (show 0 ≤ 979 / 1000 * (1 + g * X) by grind)
      grind
  rcases hg with rfl | rfl
  · refine k P M M0 (by grind) ?_ P0 ?_ (by grind) (by rw [hP]; grind)
    · have a := Rat.mul_le_mul_of_nonneg_left (show M ≤ 401 / 100 by grind) P0
      have b := mul_mono (rsq_nonneg e) eeb (Rat.mul_nonneg P0 M0) a
      grind
    · have := rsq_nonneg (C1 + C2 * z)
      have := rsq_nonneg (C2 * w)
      have := sum.2
      rw [hP, hX]
      grind
  · refine k M P P0 (by grind) ?_ M0 ?_ (by grind) (by rw [hM]; grind)
    · have a := Rat.mul_le_mul_of_nonneg_right (show P ≤ 401 / 100 by grind) M0
      have b := mul_mono (rsq_nonneg e) eeb (Rat.mul_nonneg P0 M0) a
      grind
    · have := rsq_nonneg (C1 - C2 * z)
      have := rsq_nonneg (C2 * w)
      have := sum.2
      rw [hM, hX]
      grind
end Go.Proofs.YtfhpnkmpjijebaaDoor

/- The geodesic between two places: within which differences of longitude it is looked for; its arc, its lengthening there. -/
namespace Go.Proofs.YtfhpnkmpjijebaaDoor
open Go.Fp Go.Fp.Tri
set_option maxRecDepth 20000
abbrev A0v (v : LineV) : Int := signP (normP v.lonB - normP v.lonA)
/-- two ends, neither near each other nor near opposite -/
structure Ends (v : LineV) : Prop where
  ff : Fp.Fin v.f
  f0 : 0 ≤ vl v.f
  f1 : vl v.f ≤ 10001 / 1000000
  h1 : RedOk v.f v.latA
  h2 : RedOk v.f v.latB
  near : 149 / 1000000 ≤ 1 - (vl v.su1 * vl v.su2 + vl v.cu1 * vl v.cu2 * (cis (A0v v)).re)
  far : 1485 / 100000 ≤ 1 + (vl v.su1 * vl v.su2 + vl v.cu1 * vl v.cu2 * (cis (A0v v)).re)
/-- the differences of longitude looked at -/
structure Within (v : LineV) (g : Int) (m : Int) (j : Int) : Prop where
  dir : Dir g
  a0 : 0 ≤ g * A0v v
  j0 : 0 ≤ j
  j1 : j ≤ 1820000000
  hm : m = A0v v + g * j
  top : g * m ≤ 180000000000
set_option maxHeartbeats 4000000 in
theorem within_cs {v : LineV} (e : Ends v) {g m j : Int} (w : Within v g m j) {X : Rat} (hX : X = vl v.su1 * vl v.su2 + vl v.cu1 * vl v.cu2 * (cis m).re) : 148 / 1000000 ≤ 1 - X ∧ 98 / 10000 ≤ 1 + X := by
  have c10 : 103 / 1000 ≤ vl v.cu1 := e.h1.c0
  have c20 : 103 / 1000 ≤ vl v.cu2 := e.h2.c0
  have bc1 : Wn (vl v.cu1) (1001 / 1000) := e.h1.bc
  have bs1 : Wn (vl v.su1) (9948 / 10000) := e.h1.bs
  have bc2 : Wn (vl v.cu2) (1001 / 1000) := e.h2.bc
  have bs2 : Wn (vl v.su2) (9948 / 10000) := e.h2.bs
  have n1 : Wn (vl v.cu1 * vl v.cu1 + vl v.su1 * vl v.su1 - 1) (1 / 100000000000000) := e.h1.one
  have n2 : Wn (vl v.cu2 * vl v.cu2 + vl v.su2 * vl v.su2 - 1) (1 / 100000000000000) := e.h2.one
  have nz := cis_one m
  have nz0 := cis_one (A0v v)
  have near := e.near
  have far := e.far
  have gA : g * A0v v ≤ 180000000000 := by
    have := w.top
    have := w.hm
    have := w.j0
    rcases w.dir with rfl | rfl <;> omega
  have rd := re_dir w.dir w.a0 gA w.j0 (by have := w.j1; omega)
  rw [← w.hm] at rd
  have ch : MB ((cis m).sub (cis (A0v v))) (3194 / 100000) := by
    have b : ∃ d, m = A0v v + d ∧ -1820000000 ≤ d ∧ d ≤ 1820000000 := ⟨g * j, w.hm, by have := w.j0; have := w.j1; rcases w.dir with rfl | rfl <;> omega, by have := w.j0; have := w.j1; rcases w.dir with rfl | rfl <;> omega⟩
    obtain ⟨d, hd, d1, d2⟩ := b
    have := cis_chord (a := A0v v) d1 d2 (by omega)
    rw [← hd] at this
    refine this.mono ?_
    have := rho_hi
    have e : ((1820000000 : Int) : Rat) = 1820000000 := rfl
    rw [e]; grind
  have c2z := mul_mono (rsq_nonneg (vl v.cu2)) (wn_mul bc2 bc2).2 (show 0 ≤ ((cis m).re - (cis (A0v v)).re) * ((cis m).re - (cis (A0v v)).re) + ((cis m).im - (cis (A0v v)).im) * ((cis m).im - (cis (A0v v)).im) by
    have := rsq_nonneg ((cis m).re - (cis (A0v v)).re); have := rsq_nonneg ((cis m).im - (cis (A0v v)).im); grind) ch.2
  have q1 := wn_mul (wn_mul bc2 bc2) nz
  have q0 := wn_mul (wn_mul bc2 bc2) nz0
  generalize cis m = z at *
  generalize cis (A0v v) = z0 at *
  generalize vl v.cu1 = c1 at *
  generalize vl v.su1 = s1 at *
  generalize vl v.cu2 = c2 at *
  generalize vl v.su2 = s2 at *
  have cc : 0 ≤ c1 * c2 := Rat.mul_nonneg (by grind) (by grind)
  have cc2 := (wn_mul bc1 bc2).2
  have ss := (wn_mul bs1 bs2).2
  constructor
  · rcases rd with h | h
    · have := Rat.mul_le_mul_of_nonneg_left h cc
      rw [hX]; grind
    · have := Rat.mul_le_mul_of_nonneg_left h cc
      rw [hX]; grind
  · have t1 := rsq_nonneg (19 / 100 * (c1 + c2 * z0.re) + c2 * (z.re - z0.re))
    have t2 := rsq_nonneg (19 / 100 * (c2 * z0.im) + c2 * (z.im - z0.im))
    have t3 := rsq_nonneg (s1 + s2)
    have sum : (c1 + c2 * z.re) * (c1 + c2 * z.re) + c2 * z.im * (c2 * z.im) + (s1 + s2) * (s1 + s2) ≥ 81 / 100 * ((c1 + c2 * z0.re) * (c1 + c2 * z0.re) + c2 * z0.im * (c2 * z0.im) + (s1 + s2) * (s1 + s2)) - 81 / 19 * (c2 * c2 * ((z.re - z0.re) * (z.re - z0.re) + (z.im - z0.im) * (z.im - z0.im))) := by grind
    have u1 : (c1 + c2 * z.re) * (c1 + c2 * z.re) + c2 * z.im * (c2 * z.im) + (s1 + s2) * (s1 + s2) ≤ 2 + 2 * X + 4 / 100000000000000 := by
      have := q1.2
      have := n1.2
      have := n2.2
      rw [hX]; grind
    have u0 : (c1 + c2 * z0.re) * (c1 + c2 * z0.re) + c2 * z0.im * (c2 * z0.im) + (s1 + s2) * (s1 + s2) ≥ 2 * (1485 / 100000) - 4 / 100000000000000 := by
      have := q0.1
      have := n1.1
      have := n2.1
      grind
    have c2z' : c2 * c2 * ((z.re - z0.re) * (z.re - z0.re) + (z.im - z0.im) * (z.im - z0.im)) ≤ 1023 / 1000000 := Rat.le_trans c2z (by grind)
    generalize (c1 + c2 * z.re) * (c1 + c2 * z.re) + c2 * z.im * (c2 * z.im) + (s1 + s2) * (s1 + s2) = y1 at *
    generalize (c1 + c2 * z0.re) * (c1 + c2 * z0.re) + c2 * z0.im * (c2 * z0.im) + (s1 + s2) * (s1 + s2) = y0 at *
    generalize c2 * c2 * ((z.re - z0.re) * (z.re - z0.re) + (z.im - z0.im) * (z.im - z0.im)) = y2 at *
    clear t1 t2 t3 c2z q1 q0 hX cc cc2 ss rd ch near far
    grind
/-- an arc of so many nanodegrees -/
theorem arc_le {o : Int} (o0 : 0 ≤ o) (o1 : o ≤ 180000000000) : 0 ≤ (o : Rat) * rho ∧ (o : Rat) * rho ≤ 31418 / 10000 := by
  refine ⟨Rat.mul_nonneg (cast_nn o0) (Rat.le_of_lt rho_pos), ?_⟩
  have := Rat.mul_le_mul_of_nonneg_right (castle o1) (Rat.le_of_lt rho_pos)
  have := rho_hi
  have e : ((180000000000 : Int) : Rat) = 180000000000 := rfl
  rw [e] at *; grind
set_option maxHeartbeats 4000000 in
/-- the arc against its sine -/
theorem arc_K {v : LineV} {x : Nat} (A : LineA v x) (B : LineB v x) (h1 : 98 / 10000 ≤ 1 + CSv v x) : (oIv v x : Rat) * rho ≤ 238 / 10 * vl (v.ss x) ∧ 1 / 100 * vl (v.ss x) ≤ (oIv v x : Rat) * rho := by
  have o0 := B.o0
  have o1 := B.o1
  have oc := B.oc
  have os := B.os
  have one := B.one
  have r0 := B.r0
  have r1 := B.r1
  have ecs := A.ecs
  have bcs := A.bcs
  generalize CSv v x = X at *
  generalize oIv v x = o at *
  generalize vl (v.ss x) = r at *
  generalize vl (v.cs x) = c at *
  obtain ⟨a0, a1⟩ := arc_le o0 o1
  constructor
  · by_cases k : o ≤ 90000000000
    · obtain ⟨⟨_, e2⟩, _⟩ := trig_lat (a := o) (by omega) k
      obtain ⟨_, ⟨_, e1⟩⟩ := cis_near o
      unfold tol at e1 e2
      have := e1.1
      have := e1.2
      have := e2.1
      have := e2.2
      have := os.1
      have := os.2
      rcases sI_ge o0 k with h | h
      · grind
      · grind
    · have c0 : c ≤ 1 / 10000000000 := by
        obtain ⟨⟨_, e1⟩, _⟩ := cis_near o
        obtain ⟨_, ⟨_, e2⟩⟩ := trig_half (a := o) (by omega) (by omega)
        have p := cI_pm (m := o - 180000000000) (by omega) (by omega)
        unfold tol at e1 e2
        have := e1.1
        have := e1.2
        have := e2.2
        have := oc.1
        grind
      have c1 : -(9903 / 10000) ≤ c := by have := ecs.1; grind
      have cc : c * c ≤ 9903 / 10000 * (9903 / 10000) := by
        have := wn_mul (show Wn c (9903 / 10000) from ⟨c1, by grind⟩) (show Wn c (9903 / 10000) from ⟨c1, by grind⟩)
        exact this.2
      have rr : 1389 / 10000 * (1389 / 10000) ≤ r * r := by have := one.1; grind
      have := le_of_sq (a := 1389 / 10000) (b := r) (by grind) rr
      grind
  · by_cases k : o ≤ 5000000000
    · have ch := cis_chord (a := 0) (d := o) (B := o) (by omega) (by omega) k
      rw [cis_zero, Int.zero_add] at ch
      have := ch.im.2
      simp at this
      have := os.1
      generalize (o : Rat) * rho = σ at *
      grind
    · have := Rat.mul_le_mul_of_nonneg_right (castle (show (5000000000 : Int) ≤ o by omega)) (Rat.le_of_lt rho_pos)
      have := rho_lo
      have e : ((5000000000 : Int) : Rat) = 5000000000 := rfl
      rw [e] at *
      grind
end Go.Proofs.YtfhpnkmpjijebaaDoor
