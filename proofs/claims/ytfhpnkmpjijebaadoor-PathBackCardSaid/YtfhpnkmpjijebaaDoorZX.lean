/- The two numbers of an azimuth that lengths are reckoned with, as floats. -/
import Derived.Test.YtfhpnkmpjijebaaDoorZW
namespace Go.Proofs.YtfhpnkmpjijebaaDoor
open Go.Fp Go.Fp.Tri
set_option maxRecDepth 20000
/-- a difference from one: nothing, or not too little -/
theorem nca_gen {s : Nat} (fs : Fp.Fin s) (bs : Wn (vl s) (1001 / 1000)) : vl (fsub c1 (fmul s s)) = 0 ∨ 1 / 4611686018427387904 ≤ rabs (vl (fsub c1 (fmul s s))) := by
  have u1 : uu = 1 / 9007199254740992 := uu_eq
  have eta0 := eta_pos
  have eta1 := eta_tiny
  have sa2 := rsq_nonneg (vl s)
  have bsa2 : Wn (vl s * vl s) (1003 / 1000) := (wn_mul bs bs).mono (by grind)
  obtain ⟨fM, eM⟩ := mulE fs fs _ bsa2 (by grind)
  have bM : Wn (vl (fmul s s)) (1004 / 1000) := (wn_add eM bsa2).of (by grind) (by rw [u1]; grind)
  by_cases k : vl (fmul s s) < 7 / 10
  · right
    obtain ⟨g, h⟩ := subE v_c1.1 fM 3 (by rw [v_c1.2]; obtain ⟨_, _⟩ := bM; constructor <;> grind) (by grind)
    rw [v_c1.2] at h
    have a : 29 / 100 ≤ vl (fsub c1 (fmul s s)) := by have := h.1; rw [u1] at *; grind
    have := (wn_rabs (vl (fsub c1 (fmul s s)))).2
    grind
  · rcases near_one fM (by grind) (by have := bM.2; grind) with e | e
    · left
      obtain ⟨g, h⟩ := fsub_err v_c1.1 fM 0 (by rw [v_c1.2, e]; constructor <;> grind) (big60' (by grind))
      rw [v_c1.2, e] at h
      exact vl_small g (h.of (by grind) (by grind))
    · right
      have a := rabs_nonneg (vl (fmul s s) - 1)
      obtain ⟨g, h⟩ := fsub_err v_c1.1 fM (rabs (vl (fmul s s) - 1)) (by rw [v_c1.2]; exact (wn_neg (wn_rabs (vl (fmul s s) - 1))).of (by grind) Rat.le_refl) (big60' (by
        have := rabs_le (show Wn (vl (fmul s s) - 1) 3 from by obtain ⟨_, _⟩ := bM; constructor <;> grind)
        grind))
      rw [v_c1.2] at h
      have b : rabs (vl (fmul s s) - 1) ≤ rabs (vl (fsub c1 (fmul s s))) + (uu * rabs (vl (fmul s s) - 1) + eta) := by
        refine rabs_le ((wn_sub h (wn_rabs (vl (fsub c1 (fmul s s))))).of (show _ = vl (fmul s s) - 1 by grind) (by grind))
      rw [u1] at b
      grind
/-- the globe's number -/
abbrev Wf (f : Nat) : Rat := vl (eccP f) / vl (fsub (can c1) (eccP f))
abbrev lamF (W ca : Rat) : Rat := W / 1024 * (256 + W * ca * (W * ca * (74 - 47 * (W * ca)) - 128))
abbrev pF (W ca : Rat) : Rat := 1 + W * ca / 16384 * (4096 + W * ca * (W * ca * (320 - 175 * (W * ca)) - 768))
set_option maxHeartbeats 4000000 in
theorem wf_ok {f : Nat} (ff : Fp.Fin f) (f0 : 0 ≤ vl f) (f1 : vl f ≤ 10001 / 1000000) : Fp.Fin (eccP f) ∧ Wn (vl (eccP f)) (201 / 10000) ∧ Fp.Fin (fsub (can c1) (eccP f)) ∧ 979 / 1000 ≤ vl (fsub (can c1) (eccP f)) ∧ vl (fsub (can c1) (eccP f)) ≤ 1021 / 1000 ∧ Wn (Wf f) (206 / 10000) := by
  have u1 : uu = 1 / 9007199254740992 := uu_eq
  have z2 := v_c2
  have bf : Wn (vl f) (10001 / 1000000) := ⟨by grind, f1⟩
  obtain ⟨g1, e1⟩ := subE z2.1 ff 2 (by rw [z2.2]; constructor <;> grind) (by grind)
  rw [z2.2] at e1
  have b1 : Wn (vl (fsub (can c2) f)) (20001 / 10000) := by obtain ⟨_, _⟩ := e1; rw [u1] at *; constructor <;> grind
  obtain ⟨g2, e2⟩ := mulE ff g1 _ (wn_mul bf b1) (by grind)
  have hE : eccP f = fmul f (fsub (can c2) f) := by unfold eccP; rw [ff.can]
  rw [← hE] at g2 e2
  have bE : Wn (vl (eccP f)) (201 / 10000) := (wn_add e2 (wn_mul bf b1)).of (by grind) (by rw [u1]; grind)
  obtain ⟨g3, e3⟩ := subE v_cc1.1 g2 (11 / 10) (by rw [v_cc1.2]; obtain ⟨_, _⟩ := bE; constructor <;> grind) (by grind)
  rw [v_cc1.2] at e3
  have d0 : 979 / 1000 ≤ vl (fsub (can c1) (eccP f)) := by have := e3.1; have := bE.2; rw [u1] at *; grind
  have d1 : vl (fsub (can c1) (eccP f)) ≤ 1021 / 1000 := by have := e3.2; have := bE.1; rw [u1] at *; grind
  refine ⟨g2, bE, g3, d0, d1, ?_⟩
  refine wn_div (show 0 < vl (fsub (can c1) (eccP f)) by grind) ?_
  rw [Rat.div_mul_cancel (by grind)]
  exact bE.mono (by grind)
theorem v_k16384 : Fp.Fin 4670232813583204352 ∧ vl 4670232813583204352 = 16384 := vl_const (s := false) (m := 4503599627370496) (k := 38) (by decide +kernel) (by decide +kernel)
theorem v_k4096 : Fp.Fin 4661225614328463360 ∧ vl 4661225614328463360 = 4096 := vl_const (s := false) (m := 4503599627370496) (k := 40) (by decide +kernel) (by decide +kernel)
theorem v_k320 : Fp.Fin 4644337115725824000 ∧ vl 4644337115725824000 = 320 := vl_const (s := false) (m := 5629499534213120) (k := 44) (by decide +kernel) (by decide +kernel)
theorem v_k175 : Fp.Fin 4640361281679785984 ∧ vl 4640361281679785984 = 175 := vl_const (s := false) (m := 6157265115545600) (k := 45) (by decide +kernel) (by decide +kernel)
theorem v_k768 : Fp.Fin 4649966615260037120 ∧ vl 4649966615260037120 = 768 := vl_const (s := false) (m := 6755399441055744) (k := 43) (by decide +kernel) (by decide +kernel)
theorem v_k1024 : Fp.Fin 4652218415073722368 ∧ vl 4652218415073722368 = 1024 := vl_const (s := false) (m := 4503599627370496) (k := 42) (by decide +kernel) (by decide +kernel)
theorem v_k256 : Fp.Fin 4643211215818981376 ∧ vl 4643211215818981376 = 256 := vl_const (s := false) (m := 4503599627370496) (k := 44) (by decide +kernel) (by decide +kernel)
theorem v_k74 : Fp.Fin 4634907704006017024 ∧ vl 4634907704006017024 = 74 := vl_const (s := false) (m := 5207287069147136) (k := 46) (by decide +kernel) (by decide +kernel)
theorem v_k47 : Fp.Fin 4631811479262199808 ∧ vl 4631811479262199808 = 47 := vl_const (s := false) (m := 6614661952700416) (k := 47) (by decide +kernel) (by decide +kernel)
theorem v_k128 : Fp.Fin 4638707616191610880 ∧ vl 4638707616191610880 = 128 := vl_const (s := false) (m := 4503599627370496) (k := 45) (by decide +kernel) (by decide +kernel)
/-- the inner polynomial -/
theorem poly_gen {u a b c d : Nat} {A B C D : Rat} (fu : Fp.Fin u) (bu : Wn (vl u) (21 / 1000)) (ha : Fp.Fin a ∧ vl a = A) (hb : Fp.Fin b ∧ vl b = B) (hc : Fp.Fin c ∧ vl c = C) (hd : Fp.Fin d ∧ vl d = D) (A1 : Wn A 5000) (B1 : Wn B 800) (C1 : Wn C 400) (D1 : Wn D 200) :
    Fp.Fin (fadd a (fmul u (fsub (fmul u (fsub c (fmul d u))) b))) ∧ Wn (vl (fadd a (fmul u (fsub (fmul u (fsub c (fmul d u))) b))) - (A + vl u * (vl u * (C - D * vl u) - B))) (1 / 1000000000000) := by
  have u1 : uu = 1 / 9007199254740992 := uu_eq
  obtain ⟨fa, va⟩ := ha
  obtain ⟨fb, vb⟩ := hb
  obtain ⟨fc, vc⟩ := hc
  obtain ⟨fd, vd⟩ := hd
  obtain ⟨g1, e1⟩ := mulE fd fu _ (by rw [vd]; exact wn_mul D1 bu) (by grind)
  rw [vd] at e1
  have b1 : Wn (vl (fmul d u)) 5 := (wn_add e1 (wn_mul D1 bu)).of (by grind) (by rw [u1]; grind)
  obtain ⟨g2, e2⟩ := subE fc g1 _ (by rw [vc]; exact wn_sub C1 b1) (by grind)
  rw [vc] at e2
  have b2 : Wn (vl (fsub c (fmul d u))) 406 := (wn_add e2 (wn_sub C1 b1)).of (by grind) (by rw [u1]; grind)
  obtain ⟨g3, e3⟩ := mulE fu g2 _ (wn_mul bu b2) (by grind)
  have b3 : Wn (vl (fmul u (fsub c (fmul d u)))) 9 := (wn_add e3 (wn_mul bu b2)).of (by grind) (by rw [u1]; grind)
  obtain ⟨g4, e4⟩ := subE g3 fb _ (by rw [vb]; exact wn_sub b3 B1) (by grind)
  rw [vb] at e4
  have b4 : Wn (vl (fsub (fmul u (fsub c (fmul d u))) b)) 810 := (wn_add e4 (wn_sub b3 B1)).of (by grind) (by rw [u1]; grind)
  obtain ⟨g5, e5⟩ := mulE fu g4 _ (wn_mul bu b4) (by grind)
  have b5 : Wn (vl (fmul u (fsub (fmul u (fsub c (fmul d u))) b))) 18 := (wn_add e5 (wn_mul bu b4)).of (by grind) (by rw [u1]; grind)
  obtain ⟨g6, e6⟩ := addE fa g5 _ (by rw [va]; exact wn_add A1 b5) (by grind)
  rw [va] at e6
  refine ⟨g6, ?_⟩
  have m1 := wn_mul bu e1
  have m2 := wn_mul bu (wn_sub (wn_add e3 (wn_mul bu e2)) (wn_mul bu e1))
  exact (wn_add e6 (wn_add e5 (wn_add (wn_mul bu e4) m2))).of (by grind) (by rw [u1]; grind)
end Go.Proofs.YtfhpnkmpjijebaaDoor

/- The two numbers of an azimuth that lengths are reckoned with, as floats, joined. -/
namespace Go.Proofs.YtfhpnkmpjijebaaDoor
open Go.Fp Go.Fp.Tri
set_option maxRecDepth 20000
set_option maxHeartbeats 8000000 in
theorem qp_gen {f ca : Nat} (ff : Fp.Fin f) (f0 : 0 ≤ vl f) (f1 : vl f ≤ 10001 / 1000000) (fca : Fp.Fin ca) (bca : Wn (vl ca) (1001 / 1000)) (h0 : vl ca = 0 ∨ 1 / 4611686018427387904 ≤ rabs (vl ca)) :
    ∃ lam : Rat, Fp.Fin (ofQ (uP f ca)) ∧ vl (ofQ (uP f ca)) = lam * vl ca ∧ Wn (lam - lamF (Wf f) (vl ca)) (1 / 1000000000000000) ∧ Fp.Fin (ofP (uP f ca)) ∧ Wn (vl (ofP (uP f ca)) - pF (Wf f) (vl ca)) (1 / 1000000000000000) := by
  have u1 : uu = 1 / 9007199254740992 := uu_eq
  have eta0 := eta_pos
  have eta1 := eta_tiny
  obtain ⟨fE, bE, fD, d0, d1, bW⟩ := wf_ok ff f0 f1
  have dp : 0 < vl (fsub (can c1) (eccP f)) := by grind
  obtain ⟨W, hW⟩ : ∃ W, W = Wf f := ⟨_, rfl⟩
  have hWD : W * vl (fsub (can c1) (eccP f)) = vl (eccP f) := by rw [hW]; exact Rat.div_mul_cancel (by grind)
  rw [← hW] at bW ⊢
  clear hW
  obtain ⟨c, hc⟩ : ∃ c, c = rabs (vl ca) := ⟨_, rfl⟩
  have wca : Wn (vl ca) c := hc ▸ wn_rabs _
  have c0 := wca.nonneg
  have c1' : c ≤ 1001 / 1000 := hc ▸ rabs_le bca
  have hu : uP f ca = fdiv (fmul ca (eccP f)) (fsub (can c1) (eccP f)) := rfl
  generalize fsub (can c1) (eccP f) = dn at *
  generalize eccP f = E at *
  obtain ⟨fm, em⟩ := mulC fca fE wca bE (by grind)
  have zm : vl ca = 0 → vl (fmul ca E) = 0 := by
    intro h
    have c00 : c = 0 := by rw [hc, h]; unfold rabs; rw [if_neg (show ¬ (0 : Rat) < 0 by grind)]
    rw [c00, h] at em
    exact vl_small fm (em.of (by grind) (by grind))
  have bm : Wn (vl (fmul ca E)) (202 / 10000 * c + 2 * eta) := (wn_add em (wn_mul wca bE)).of (by grind) (by rw [u1]; grind)
  have qm : Wn (vl (fmul ca E) / vl dn) (207 / 10000 * c + 3 * eta) := by
    refine wn_div dp ?_
    rw [Rat.div_mul_cancel (by grind)]
    refine bm.mono ?_
    have := Rat.mul_le_mul_of_nonneg_left d0 (show 0 ≤ 207 / 10000 * c + 3 * eta by grind)
    grind
  obtain ⟨fu, eu⟩ := fdiv_err fm fD (by grind) _ qm (big60 (by grind))
  have zu : vl ca = 0 → vl (uP f ca) = 0 := by
    intro h
    have zq : vl (fmul ca E) / vl dn = 0 := by rw [zm h, Rat.div_def]; grind
    obtain ⟨g, e⟩ := fdiv_err fm fD (by grind) 0 (by rw [zq]; constructor <;> grind) (big60 (by grind))
    rw [← hu, zq] at e
    rw [← hu] at g
    exact vl_small g (e.of (by grind) (by grind))
  rw [← hu] at fu eu
  have tu : Wn (vl (uP f ca) - vl ca * W) (uu * (7 / 100 * c) + 5 * eta) := by
    have a : Wn (vl (fmul ca E) / vl dn - vl ca * W) (uu * (21 / 1000 * c) + 2 * eta) := by
      refine wn_div dp ?_
      have e : (vl (fmul ca E) / vl dn - vl ca * W) * vl dn = vl (fmul ca E) / vl dn * vl dn - vl ca * (W * vl dn) := by grind
      rw [e, Rat.div_mul_cancel (by grind), hWD]
      refine em.mono ?_
      have := Rat.mul_le_mul_of_nonneg_left d0 (show 0 ≤ uu * (21 / 1000 * c) + 2 * eta by rw [u1]; grind)
      rw [u1] at *
      grind
    exact (wn_add eu a).of (by grind) (by rw [u1]; grind)
  have bu : Wn (vl (uP f ca)) (2064 / 100000 * c + 6 * eta) := (wn_add tu (wn_mul wca bW)).of (by grind) (by rw [u1]; grind)
  have bu2 : Wn (vl (uP f ca)) (21 / 1000) := bu.mono (by grind)
  clear eu qm bm em fm hu
  have hQ : ofQ (uP f ca) = fmul (fdiv (uP f ca) 4652218415073722368) (fadd 4643211215818981376 (fmul (uP f ca) (fsub (fmul (uP f ca) (fsub 4634907704006017024 (fmul 4631811479262199808 (uP f ca)))) 4638707616191610880))) := by
    unfold ofQ; rw [v_k1024.1.can, v_k256.1.can, v_k74.1.can, v_k47.1.can, v_k128.1.can]
  have hP : ofP (uP f ca) = fadd (can c1) (fmul (fdiv (uP f ca) 4670232813583204352) (fadd 4661225614328463360 (fmul (uP f ca) (fsub (fmul (uP f ca) (fsub 4644337115725824000 (fmul 4640361281679785984 (uP f ca)))) 4649966615260037120)))) := by
    unfold ofP; rw [v_k16384.1.can, v_k4096.1.can, v_k320.1.can, v_k175.1.can, v_k768.1.can]
  rw [hQ, hP]
  clear hQ hP
  generalize uP f ca = u at *
  obtain ⟨gG, eG⟩ := poly_gen fu bu2 v_k256 v_k128 v_k74 v_k47 ⟨by grind, by grind⟩ ⟨by grind, by grind⟩ ⟨by grind, by grind⟩ ⟨by grind, by grind⟩
  obtain ⟨gH, eH⟩ := poly_gen fu bu2 v_k4096 v_k768 v_k320 v_k175 ⟨by grind, by grind⟩ ⟨by grind, by grind⟩ ⟨by grind, by grind⟩ ⟨by grind, by grind⟩
  generalize fadd 4643211215818981376 (fmul u (fsub (fmul u (fsub 4634907704006017024 (fmul 4631811479262199808 u))) 4638707616191610880)) = G at *
  generalize fadd 4661225614328463360 (fmul u (fsub (fmul u (fsub 4644337115725824000 (fmul 4640361281679785984 u))) 4649966615260037120)) = H at *
  -- the polynomials at what u ought to be
  have tu2 : Wn (vl u - vl ca * W) (1 / 10000000000000000) := tu.mono (by rw [u1]; grind)
  have bcW : Wn (vl ca * W) (21 / 1000) := (wn_mul bca bW).mono (by grind)
  have poly : ∀ A B C D : Rat, Wn B 800 → Wn C 400 → Wn D 200 → Wn ((A + vl u * (vl u * (C - D * vl u) - B)) - (A + W * vl ca * (W * vl ca * (C - D * (W * vl ca)) - B))) (1 / 10000000000000) := by
    intro A B C D hB hC hD
    have s1 := wn_add bu2 bcW
    have s2 := wn_add (wn_mul bu2 bu2) (wn_add (wn_mul bu2 bcW) (wn_mul bcW bcW))
    have k := wn_mul tu2 (wn_sub (wn_sub (wn_mul hC s1) (wn_mul hD s2)) hB)
    exact k.of (by grind) (by grind)
  have pG := poly 256 128 74 47 ⟨by grind, by grind⟩ ⟨by grind, by grind⟩ ⟨by grind, by grind⟩
  have pH := poly 4096 768 320 175 ⟨by grind, by grind⟩ ⟨by grind, by grind⟩ ⟨by grind, by grind⟩
  have tG := (wn_add eG pG).of (show _ = vl G - (256 + W * vl ca * (W * vl ca * (74 - 47 * (W * vl ca)) - 128)) by grind) (show _ ≤ (2 / 1000000000000 : Rat) by grind)
  have tH := (wn_add eH pH).of (show _ = vl H - (4096 + W * vl ca * (W * vl ca * (320 - 175 * (W * vl ca)) - 768)) by grind) (show _ ≤ (2 / 1000000000000 : Rat) by grind)
  have bWc : Wn (W * vl ca) (21 / 1000) := bcW.of (by grind) Rat.le_refl
  have bG0 : Wn (256 + W * vl ca * (W * vl ca * (74 - 47 * (W * vl ca)) - 128)) 259 := by
    have a := wn_mul bWc (wn_sub (wn_mul bWc (wn_sub (show Wn (74 : Rat) 74 from ⟨by grind, by grind⟩) (wn_mul (show Wn (47 : Rat) 47 from ⟨by grind, by grind⟩) bWc))) (show Wn (128 : Rat) 128 from ⟨by grind, by grind⟩))
    exact (wn_add (show Wn (256 : Rat) 256 from ⟨by grind, by grind⟩) a).mono (by grind)
  have bH0 : Wn (4096 + W * vl ca * (W * vl ca * (320 - 175 * (W * vl ca)) - 768)) 4113 := by
    have a := wn_mul bWc (wn_sub (wn_mul bWc (wn_sub (show Wn (320 : Rat) 320 from ⟨by grind, by grind⟩) (wn_mul (show Wn (175 : Rat) 175 from ⟨by grind, by grind⟩) bWc))) (show Wn (768 : Rat) 768 from ⟨by grind, by grind⟩))
    exact (wn_add (show Wn (4096 : Rat) 4096 from ⟨by grind, by grind⟩) a).mono (by grind)
  clear eG eH pG pH poly
  -- the second number
  have hp : Fp.Fin (fadd (can c1) (fmul (fdiv u 4670232813583204352) H)) ∧ Wn (vl (fadd (can c1) (fmul (fdiv u 4670232813583204352) H)) - pF W (vl ca)) (1 / 1000000000000000) := by
    have z := v_k16384
    have b : Wn (vl u / 16384) (2 / 1000000) := by obtain ⟨_, _⟩ := bu2; constructor <;> grind
    obtain ⟨g1, e1⟩ := fdiv_err fu z.1 (by rw [z.2]; grind) (2 / 1000000) (by rw [z.2]; exact b) (big60 (by grind))
    rw [z.2] at e1
    have b1 : Wn (vl (fdiv u 4670232813583204352)) (3 / 1000000) := (wn_add e1 b).of (by grind) (by rw [u1]; grind)
    have bH : Wn (vl H) 4114 := (wn_add tH bH0).of (by grind) (by grind)
    obtain ⟨g2, e2⟩ := mulC g1 gH b1 bH (by grind)
    have b2 : Wn (vl (fmul (fdiv u 4670232813583204352) H)) (2 / 100) := (wn_add e2 (wn_mul b1 bH)).of (by grind) (by rw [u1]; grind)
    obtain ⟨g3, e3⟩ := addE v_cc1.1 g2 (103 / 100) (by rw [v_cc1.2]; obtain ⟨_, _⟩ := b2; constructor <;> grind) (by grind)
    rw [v_cc1.2] at e3
    refine ⟨g3, ?_⟩
    have m1 := wn_mul e1 bH
    have m2 := wn_mul b tH
    have m3 := wn_mul (show Wn ((vl u - vl ca * W) / 16384) (1 / 100000000000000000000) from by obtain ⟨_, _⟩ := tu2; constructor <;> grind) bH0
    exact (wn_add e3 (wn_add e2 (wn_add m1 (wn_add m2 m3)))).of (by unfold pF; grind) (by rw [u1]; grind)
  -- the first number
  have z := v_k1024
  have bq : Wn (vl u / 1024) ((2064 / 100000 * c + 6 * eta) / 1024) := by obtain ⟨_, _⟩ := bu; constructor <;> grind
  obtain ⟨g1, e1⟩ := fdiv_err fu z.1 (by rw [z.2]; grind) ((2064 / 100000 * c + 6 * eta) / 1024) (by rw [z.2]; exact bq) (big60 (by grind))
  rw [z.2] at e1
  have b1 : Wn (vl (fdiv u 4652218415073722368)) (3 / 100000 * c + 2 * eta) := (wn_add e1 bq).of (by grind) (by rw [u1]; grind)
  have bG : Wn (vl G) 260 := (wn_add tG bG0).of (by grind) (by grind)
  obtain ⟨g2, e2⟩ := mulC g1 gG b1 bG (by grind)
  have tq : Wn (vl (fmul (fdiv u 4652218415073722368) G) - lamF W (vl ca) * vl ca) (5 / 10000000000000000 * c + 1000 * eta) := by
    have m1 := wn_mul e1 bG
    have m2 := wn_mul bq tG
    have m3 := wn_mul (show Wn ((vl u - vl ca * W) / 1024) ((uu * (7 / 100 * c) + 5 * eta) / 1024) from by obtain ⟨_, _⟩ := tu; constructor <;> grind) bG0
    exact (wn_add e2 (wn_add m1 (wn_add m2 m3))).of (by unfold lamF; grind) (by rw [u1]; grind)
  rcases h0 with h | h
  · refine ⟨lamF W (vl ca), g2, ?_, ⟨by grind, by grind⟩, hp⟩
    have u0 := zu h
    have zq : vl u / 1024 = 0 := by rw [u0, Rat.div_def]; grind
    obtain ⟨k1, k2⟩ := fdiv_err fu z.1 (by rw [z.2]; grind) 0 (by rw [z.2, zq]; constructor <;> grind) (big60 (by grind))
    rw [z.2, zq] at k2
    have k3 : vl (fdiv u 4652218415073722368) = 0 := vl_small k1 (k2.of (by grind) (by grind))
    obtain ⟨k4, k5⟩ := mulC k1 gG (show Wn (vl (fdiv u 4652218415073722368)) 0 from by rw [k3]; constructor <;> grind) bG (by grind)
    rw [vl_small k4 (k5.of (by rw [k3]; grind) (by grind)), h]
    grind
  · have hc0 : vl ca ≠ 0 := by
      intro e
      rw [e] at h
      unfold rabs at h
      rw [if_neg (by grind)] at h
      grind
    obtain ⟨lam, hl⟩ : ∃ lam, lam = vl (fmul (fdiv u 4652218415073722368) G) / vl ca := ⟨_, rfl⟩
    have hl2 : lam * vl ca = vl (fmul (fdiv u 4652218415073722368) G) := by rw [hl]; exact Rat.div_mul_cancel hc0
    refine ⟨lam, g2, hl2.symm, ?_, hp⟩
    rw [← hc] at h
    have cp : 0 < c := by grind
    refine wn_div cp ?_
    have e := rabs_mul (lam - lamF W (vl ca)) (vl ca)
    have l := rabs_le (tq.of (show _ = (lam - lamF W (vl ca)) * vl ca by rw [← hl2]; grind) Rat.le_refl)
    rw [e, ← hc] at l
    have w := wn_rabs (lam - lamF W (vl ca))
    have a1 := Rat.mul_le_mul_of_nonneg_right w.1 (Rat.le_of_lt cp)
    have a2 := Rat.mul_le_mul_of_nonneg_right w.2 (Rat.le_of_lt cp)
    have s : 5 / 10000000000000000 * c + 1000 * eta ≤ 1 / 1000000000000000 * c := by grind
    exact ⟨by grind, by grind⟩
end Go.Proofs.YtfhpnkmpjijebaaDoor

/- How much shorter the arc is than its first guess: the line's, and what one finds on the way. -/
namespace Go.Proofs.YtfhpnkmpjijebaaDoor
open Go.Fp Go.Fp.Tri
set_option maxRecDepth 20000
abbrev OFF (ss cs Q q : Rat) : Rat := ss * (Q + (cs * (2 * (Q * Q) - q * q) - Q * ((4 * (ss * ss) - 3) * (4 * (Q * Q) - 3 * (q * q))) / 6) / 4)
set_option maxHeartbeats 8000000 in
/-- it hangs on its numbers so -/
theorem off_lip {s c Q q s' c' Q' q' η α β : Rat} (bs : Wn s (101 / 100)) (bc : Wn c (101 / 100)) (bs' : Wn s' (101 / 100)) (bc' : Wn c' (101 / 100)) (bQ : Wn Q (17 / 1000)) (bQ' : Wn Q' (17 / 1000)) (bq : Wn q (6 / 1000)) (bq' : Wn q' (6 / 1000))
    (hs : Wn (s' - s) η) (hc : Wn (c' - c) η) (hQ : Wn (s' * (Q' - Q)) α) (hq : Wn (q' - q) β) : Wn (OFF s' c' Q' q' - OFF s c Q q) (18 / 1000 * η + 103 / 100 * α + 1 / 100 * β) := by
  have η0 := hs.nonneg
  have α0 := hQ.nonneg
  have β0 := hq.nonneg
  have two : Wn (2 : Rat) 2 := ⟨by grind, by grind⟩
  have three : Wn (3 : Rat) 3 := ⟨by grind, by grind⟩
  have four : Wn (4 : Rat) 4 := ⟨by grind, by grind⟩
  obtain ⟨Y, hY⟩ : ∃ Y, Y = Q + (c * (2 * (Q * Q) - q * q) - Q * ((4 * (s * s) - 3) * (4 * (Q * Q) - 3 * (q * q))) / 6) / 4 := ⟨_, rfl⟩
  -- sizes
  have e1 := wn_sub (wn_mul two (wn_mul bQ bQ)) (wn_mul bq bq)
  have t0 : Wn (4 * (s * s) - 3) (3 : Rat) := by have := (wn_mul bs bs).2; have := rsq_nonneg s; constructor <;> grind
  have t0' : Wn (4 * (s' * s') - 3) (3 : Rat) := by have := (wn_mul bs' bs').2; have := rsq_nonneg s'; constructor <;> grind
  have f1 := wn_sub (wn_mul four (wn_mul bQ bQ)) (wn_mul three (wn_mul bq bq))
  have g1 := wn_mul bQ (wn_mul t0 f1)
  have bY : Wn Y (1717 / 100000) := by
    rw [hY]
    have a := wn_mul bc e1
    have b : Wn ((c * (2 * (Q * Q) - q * q) - Q * ((4 * (s * s) - 3) * (4 * (Q * Q) - 3 * (q * q))) / 6) / 4) (16 / 100000) := by
      have := wn_sub a (wn_mul (show Wn (1 / 6 : Rat) (1 / 6) from ⟨by grind, by grind⟩) g1)
      have := wn_mul (show Wn (1 / 4 : Rat) (1 / 4) from ⟨by grind, by grind⟩) this
      exact this.of (by grind) (by grind)
    exact (wn_add bQ b).mono (by grind)
  -- changes, times the sine
  have sQ := wn_add bQ' bQ
  have dQQ : Wn (s' * (Q' * Q' - Q * Q)) (34 / 1000 * α) := (wn_mul hQ sQ).of (by grind) (by grind)
  have dqq : Wn (s' * (q' * q' - q * q)) (122 / 10000 * β) := (wn_mul bs' (wn_mul hq (wn_add bq' bq))).of (by grind) (by grind)
  have dE : Wn (s' * ((2 * (Q' * Q') - q' * q') - (2 * (Q * Q) - q * q))) (68 / 1000 * α + 122 / 10000 * β) := (wn_sub (wn_mul two dQQ) dqq).of (by grind) (by grind)
  have dF : Wn (s' * ((4 * (Q' * Q') - 3 * (q' * q')) - (4 * (Q * Q) - 3 * (q * q)))) (136 / 1000 * α + 366 / 10000 * β) := (wn_sub (wn_mul four dQQ) (wn_mul three dqq)).of (by grind) (by grind)
  have dT : Wn ((4 * (s' * s') - 3) - (4 * (s * s) - 3)) (81 / 10 * η) := (wn_mul (wn_mul four hs) (wn_add bs' bs)).of (by grind) (by grind)
  obtain ⟨E, hE⟩ : ∃ E, E = 2 * (Q * Q) - q * q := ⟨_, rfl⟩
  obtain ⟨E', hE'⟩ : ∃ E', E' = 2 * (Q' * Q') - q' * q' := ⟨_, rfl⟩
  obtain ⟨F, hF⟩ : ∃ F, F = 4 * (Q * Q) - 3 * (q * q) := ⟨_, rfl⟩
  obtain ⟨F', hF'⟩ : ∃ F', F' = 4 * (Q' * Q') - 3 * (q' * q') := ⟨_, rfl⟩
  obtain ⟨T, hT⟩ : ∃ T, T = 4 * (s * s) - 3 := ⟨_, rfl⟩
  obtain ⟨T', hT'⟩ : ∃ T', T' = 4 * (s' * s') - 3 := ⟨_, rfl⟩
  have bE : Wn E (62 / 100000) := hE ▸ e1.mono (by grind)
  have bF : Wn F (127 / 100000) := hF ▸ f1.mono (by grind)
  rw [← hE, ← hE'] at dE
  rw [← hF, ← hF'] at dF
  rw [← hT, ← hT'] at dT
  rw [← hT'] at t0'
  rw [← hE, ← hT, ← hF] at hY
  have eO : OFF s' c' Q' q' - OFF s c Q q = (s' - s) * Y + (s' * (Q' - Q) + (c' * (s' * (E' - E)) + s' * ((c' - c) * E) - (s' * (Q' - Q) * (T' * F') + s' * (Q * ((T' - T) * F)) + Q * (T' * (s' * (F' - F)))) / 6) / 4) := by
    unfold OFF
    rw [← hE, ← hE', ← hF, ← hF', ← hT, ← hT', hY]; grind
  rw [eO]
  have bF' : Wn F' (127 / 100000) := by
    have := wn_sub (wn_mul four (wn_mul bQ' bQ')) (wn_mul three (wn_mul bq' bq'))
    exact hF' ▸ this.mono (by grind)
  have a1 := wn_mul hs bY
  have a2 := wn_mul bc' dE
  have a3 := wn_mul bs' (wn_mul hc bE)
  have a4 := wn_mul hQ (wn_mul t0' bF')
  have a5 := wn_mul bs' (wn_mul bQ (wn_mul dT bF))
  have a6 := wn_mul bQ (wn_mul t0' dF)
  have w := wn_mul (show Wn (1 / 4 : Rat) (1 / 4) from ⟨by grind, by grind⟩) (wn_sub (wn_add a2 a3) (wn_mul (show Wn (1 / 6 : Rat) (1 / 6) from ⟨by grind, by grind⟩) (wn_add (wn_add a4 a5) a6)))
  exact (wn_add a1 (wn_add hQ w)).of (by grind) (by grind)
theorem lam_near {W ca ca' e : Rat} (bW : Wn W (206 / 10000)) (b : Wn ca (1001 / 1000)) (b' : Wn ca' (1001 / 1000)) (h : Wn (ca' - ca) e) : Wn (lamF W ca' - lamF W ca) (6 / 100000 * e) ∧ Wn (pF W ca' - pF W ca) (54 / 10000 * e) ∧ Wn (lamF W ca) (523 / 100000) ∧ Wn (pF W ca - 1) (52 / 10000) := by
  have e0 := h.nonneg
  have x := wn_mul bW b
  have x' := wn_mul bW b'
  have d := wn_mul bW h
  obtain ⟨u, hu⟩ : ∃ u, u = W * ca := ⟨_, rfl⟩
  obtain ⟨u', hu'⟩ : ∃ u', u' = W * ca' := ⟨_, rfl⟩
  have bu : Wn u (207 / 10000) := hu ▸ x.mono (by grind)
  have bu' : Wn u' (207 / 10000) := hu' ▸ x'.mono (by grind)
  have du : Wn (u' - u) (206 / 10000 * e) := d.of (by rw [hu, hu']; grind) Rat.le_refl
  have s1 := wn_add bu' bu
  have s2 := wn_add (wn_mul bu' bu') (wn_add (wn_mul bu' bu) (wn_mul bu bu))
  have bW2 : Wn (W / 1024) (202 / 10000000) := by obtain ⟨_, _⟩ := bW; constructor <;> grind
  have C : ∀ z : Rat, 0 ≤ z → Wn z z := fun z h => wn_pos h
  refine ⟨?_, ?_, ?_, ?_⟩
  · have k := wn_mul du (wn_sub (wn_sub (wn_mul (C 74 (by grind)) s1) (wn_mul (C 47 (by grind)) s2)) (C 128 (by grind)))
    have := wn_mul bW2 k
    exact this.of (by unfold lamF; rw [← hu, ← hu']; grind) (by grind)
  · have s3 := wn_mul s1 (wn_add (wn_mul bu' bu') (wn_mul bu bu))
    have k := wn_mul du (wn_add (C 4096 (by grind)) (wn_sub (wn_sub (wn_mul (C 320 (by grind)) s2) (wn_mul (C 175 (by grind)) s3)) (wn_mul (C 768 (by grind)) s1)))
    have := wn_mul (show Wn (1 / 16384 : Rat) (1 / 16384) from C _ (by grind)) k
    exact this.of (by unfold pF; rw [← hu, ← hu']; grind) (by grind)
  · have k := wn_mul bu (wn_sub (wn_mul bu (wn_sub (C 74 (by grind)) (wn_mul (C 47 (by grind)) bu))) (C 128 (by grind)))
    have := wn_mul bW2 (wn_add (C 256 (by grind)) k)
    exact this.of (by unfold lamF; rw [← hu]) (by grind)
  · have k := wn_mul bu (wn_sub (wn_mul bu (wn_sub (C 320 (by grind)) (wn_mul (C 175 (by grind)) bu))) (C 768 (by grind)))
    have := wn_mul (wn_mul bu (C (1 / 16384) (by grind))) (wn_add (C 4096 (by grind)) k)
    exact this.of (by unfold pF; rw [← hu]; grind) (by grind)
end Go.Proofs.YtfhpnkmpjijebaaDoor

/- How much shorter the line's arc is than its first guess, as a float. -/
namespace Go.Proofs.YtfhpnkmpjijebaaDoor
open Go.Fp Go.Fp.Tri
set_option maxRecDepth 20000
abbrev offBv (v : LineV) (y : Nat) : Nat := offP (ofQ (uP v.f (v.ca y))) (v.ss y) (v.cs y) (v.cm y)
set_option maxHeartbeats 4000000 in
theorem offB_ok {v : LineV} (e : Ends v) {y : Nat} (A : LineA v y) (B : LineB v y) {κ : Rat} (c : LineC v y κ) :
    ∃ lam : Rat, Fp.Fin (offBv v y) ∧ Wn (lam - lamF (Wf v.f) (vl (v.ca y))) (1 / 1000000000000000) ∧ Wn lam (524 / 100000) ∧ Wn (vl (offBv v y) - OFF (vl (v.ss y)) (vl (v.cs y)) (lam * mv v y) (lam * vl (v.ca y))) (2 / 1000000000000) ∧ Wn (vl (offBv v y)) (175 / 10000) ∧
      Fp.Fin (ofP (uP v.f (v.ca y))) ∧ Wn (vl (ofP (uP v.f (v.ca y))) - pF (Wf v.f) (vl (v.ca y))) (1 / 1000000000000000) := by
  have bca : Wn (vl (v.ca y)) (1000001 / 1000000) := ⟨by have := B.ca0; grind, B.ca1⟩
  obtain ⟨lam, fq, eq, el, fp, ep⟩ := qp_gen e.ff e.f0 e.f1 B.fca (bca.mono (by grind)) c.nca
  obtain ⟨_, _, _, _, _, bW⟩ := wf_ok e.ff e.f0 e.f1
  obtain ⟨_, _, bl, _⟩ := lam_near bW (bca.mono (show _ ≤ (1001 / 1000 : Rat) by grind)) (bca.mono (show _ ≤ (1001 / 1000 : Rat) by grind)) (e := 0) ⟨by grind, by grind⟩
  have blam : Wn lam (524 / 100000) := (wn_add el bl).of (by grind) (by grind)
  have br : Wn (vl (v.ss y)) (1001 / 1000) := ⟨by have := B.r0; grind, B.r1⟩
  have bq : Wn (vl (ofQ (uP v.f (v.ca y)))) (6 / 1000) := by rw [eq]; exact (wn_mul blam bca).mono (by grind)
  have bK : Wn (vl (ofQ (uP v.f (v.ca y))) * vl (v.cm y)) (165 / 10000) := by rw [eq]; exact (wn_mul blam c.bM).of (by grind) (by grind)
  have bK' := rabs_le (bK.mono (show _ ≤ (2 / 100 : Rat) by grind))
  rw [rabs_mul] at bK'
  obtain ⟨fo, eo⟩ := off_gen fq A.fcs B.fss c.fcm A.bcs (br.mono (by grind)) (rabs_le bq) c.bcm bK'
  have bQ2 : Wn (lam * mv v y) (17 / 1000) := (wn_mul blam c.bm).mono (by grind)
  have br' := br.mono (show _ ≤ (101 / 100 : Rat) by grind)
  have bq2 : Wn (lam * vl (v.ca y)) (6 / 1000) := by rw [← eq]; exact bq
  have z0 : ∀ x : Rat, Wn (x - x) 0 := fun x => ⟨by grind, by grind⟩
  have dif := off_lip (Q := lam * mv v y) (q := lam * vl (v.ca y)) (Q' := vl (ofQ (uP v.f (v.ca y))) * vl (v.cm y)) (q' := vl (ofQ (uP v.f (v.ca y)))) br' A.bcs br' A.bcs bQ2 (bK.mono (by grind)) bq2 bq (η := 0) (α := 11 / 10000000000000) (β := 0) (z0 _) (z0 _) (by
    have := wn_mul blam c.eM
    rw [eq]
    exact this.of (by grind) (by grind)) (by rw [eq]; exact z0 _)
  have eo2 : Wn (vl (offBv v y) - OFF (vl (v.ss y)) (vl (v.cs y)) (lam * mv v y) (lam * vl (v.ca y))) (2 / 1000000000000) := (wn_add eo dif).of (by unfold OFF offBv; grind) (by grind)
  have siz := off_lip (Q := 0) (q := 0) (Q' := lam * mv v y) (q' := lam * vl (v.ca y)) br' A.bcs br' A.bcs ⟨by grind, by grind⟩ bQ2 ⟨by grind, by grind⟩ bq2 (η := 0) (α := 158 / 10000) (β := 6 / 1000) (z0 _) (z0 _) ((wn_mul br (wn_mul blam c.bm)).of (by grind) (by grind)) (bq2.of (by grind) Rat.le_refl)
  exact ⟨lam, fo, el, blam, eo2, (wn_add eo2 siz).of (by unfold OFF; grind) (by grind), fp, ep⟩
end Go.Proofs.YtfhpnkmpjijebaaDoor

/- How long the line is; the first guess of the arc on the way back. -/
namespace Go.Proofs.YtfhpnkmpjijebaaDoor
open Go.Fp Go.Fp.Tri
set_option maxRecDepth 20000
theorem pcq_bd3 : pbd PCq (137 / 1000) ≤ 69 / 1000 := by decide +kernel
/-- the arc: not too short beside its sine, not too near half a turn -/
theorem arc_more {v : LineV} {x : Nat} (A : LineA v x) (B : LineB v x) (h1 : 98 / 10000 ≤ 1 + CSv v x) : 1 / 20 * vl (v.ss x) ≤ (oIv v x : Rat) * rho ∧ (oIv v x : Rat) * rho ≤ 3005 / 1000 := by
  have o0 := B.o0
  have o1 := B.o1
  have oc := B.oc
  have os := B.os
  have r1 := B.r1
  have r0 := B.r0
  have ecs := A.ecs
  generalize CSv v x = X at *
  generalize oIv v x = o at *
  generalize vl (v.ss x) = r at *
  generalize vl (v.cs x) = c at *
  obtain ⟨a0, a1⟩ := arc_le o0 o1
  constructor
  · by_cases k : o ≤ 5000000000
    · have ch := cis_chord (a := 0) (d := o) (B := o) (by omega) (by omega) k
      rw [cis_zero, Int.zero_add] at ch
      have := ch.im.2
      simp at this
      have := os.1
      generalize (o : Rat) * rho = σ at *
      grind
    · have := Rat.mul_le_mul_of_nonneg_right (castle (show (5000000000 : Int) ≤ o by omega)) (Rat.le_of_lt rho_pos)
      have := rho_lo
      have e : ((5000000000 : Int) : Rat) = 5000000000 := rfl
      rw [e] at *
      grind
  · rcases Rat.le_total (a := (o : Rat) * rho) (b := 3005 / 1000) with k | k
    · exact k
    · exfalso
      obtain ⟨j, hj⟩ : ∃ j, j = 180000000000 - o := ⟨_, rfl⟩
      have jc : (j : Rat) * rho = 180000000000 * rho - (o : Rat) * rho := by
        rw [hj, Rat.intCast_sub]
        have e : ((180000000000 : Int) : Rat) = 180000000000 := rfl
        rw [e]; grind
      have pr := pi_rho
      have jb : (j : Rat) * rho ≤ 137 / 1000 := by have := pr.2; rw [jc]; grind
      have j0 : 0 ≤ (j : Rat) * rho := Rat.mul_nonneg (cast_nn (by omega)) (Rat.le_of_lt rho_pos)
      have j1 : j < 45000000000 := by
        rcases Int.lt_or_le j 45000000000 with q | q
        · exact q
        · exfalso
          have h := Rat.mul_le_mul_of_nonneg_right (castle q) (Rat.le_of_lt rho_pos)
          have := rho_lo
          have e : ((45000000000 : Int) : Rat) = 45000000000 := rfl
          rw [e] at h
          grind
      have e := cis_pi (-j)
      rw [show -j + 180000000000 = o by omega] at e
      have s := cis_small (a := -j) (by omega) (by omega)
      have ne : ((-j : Int) : Rat) * rho = -((j : Rat) * rho) := by rw [Rat.intCast_neg]; grind
      have re : (cis o).re = -C ((j : Rat) * rho) := by
        rw [e, s, ne]
        show -(C (-((j : Rat) * rho))) = _
        rw [C_even]
      generalize (j : Rat) * rho = z at *
      have b := wn_mul (show Wn z (137 / 1000) from ⟨by grind, jb⟩) ((wn_pev PCq (show Wn z (137 / 1000) from ⟨by grind, jb⟩)).mono pcq_bd3)
      rw [C_q] at re
      have := b.1
      have := oc.1
      have := ecs.1
      grind
/-- a globe's radius -/
structure AOk (v : LineV) : Prop where
  fa : Fp.Fin v.a
  a0 : 6000000 ≤ vl v.a
  a1 : vl v.a ≤ 6500000
abbrev gv (v : LineV) : Nat := fmul (can v.a) (fsub (can c1) (can v.f))
theorem gv_ok {v : LineV} (h : AOk v) (ff : Fp.Fin v.f) (f0 : 0 ≤ vl v.f) (f1 : vl v.f ≤ 10001 / 1000000) : Fp.Fin (gv v) ∧ 5900000 ≤ vl (gv v) ∧ vl (gv v) ≤ 6500001 := by
  have u1 : uu = 1 / 9007199254740992 := uu_eq
  obtain ⟨fa, a0, a1⟩ := h
  unfold gv
  rw [fa.can, ff.can]
  obtain ⟨g1, e1⟩ := subE v_cc1.1 ff 1 (by rw [v_cc1.2]; constructor <;> grind) (by grind)
  rw [v_cc1.2] at e1
  have b0 : 98998 / 100000 ≤ vl (fsub (can c1) v.f) := by have := e1.1; rw [u1] at *; grind
  have b1 : vl (fsub (can c1) v.f) ≤ 1 + 1 / 1000000000000000 := by have := e1.2; rw [u1] at *; grind
  have p1 := mul_mono (show 0 ≤ vl v.a by grind) a1 (show 0 ≤ vl (fsub (can c1) v.f) by grind) b1
  have p0 := mul_mono (show (0 : Rat) ≤ 6000000 by grind) a0 (show (0 : Rat) ≤ 98998 / 100000 by grind) b0
  obtain ⟨g2, e2⟩ := mulE fa g1 6500001 ⟨by grind, by grind⟩ (by grind)
  exact ⟨g2, by have := e2.1; rw [u1] at *; grind, by have := e2.2; rw [u1] at *; grind⟩
set_option maxHeartbeats 4000000 in
/-- how long the line is -/
theorem far_ok {v : LineV} (e : Ends v) (ha : AOk v) {y : Nat} (A : LineA v y) (B : LineB v y) {κ : Rat} (_c : LineC v y κ) (h1 : 98 / 10000 ≤ 1 + CSv v y) {off p : Rat} (fo : Fp.Fin (offBv v y)) (ho : vl (offBv v y) = off) (bo : Wn off (175 / 10000)) (bo2 : Wn off (18 / 1000 * vl (v.ss y) + 1 / 100000000000))
    (fp : Fp.Fin (ofP (uP v.f (v.ca y)))) (ep : Wn (vl (ofP (uP v.f (v.ca y))) - p) (1 / 1000000000000000)) (bp : Wn (p - 1) (52 / 10000)) :
    Fp.Fin (v.far y) ∧ 0 ≤ vl (v.far y) ∧ vl (v.far y) ≤ 20000000 ∧ Wn (vl (v.far y) - vl (gv v) * (p * ((oIv v y : Rat) * rho - off))) (vl (gv v) * (1 / 100000000000000)) ∧ Wn ((oIv v y : Rat) * rho - off) (304 / 100) := by
  have u1 : uu = 1 / 9007199254740992 := uu_eq
  obtain ⟨fg, g0, g1⟩ := gv_ok ha e.ff e.f0 e.f1
  obtain ⟨k0, k1⟩ := arc_more A B h1
  have r0 := B.r0
  have a0 := (arc_le B.o0 B.o1).1
  have bσ : Wn ((oIv v y : Rat) * rho) (3005 / 1000) := ⟨by grind, k1⟩
  have eo := B.eo
  have hf : v.far y = fmul (fmul (gv v) (ofP (uP v.f (v.ca y)))) (fsub (v.o y) (offBv v y)) := rfl
  generalize (oIv v y : Rat) * rho = σ at *
  have bd : Wn (σ - off) (30225 / 10000) := (wn_sub bσ bo).mono (by grind)
  have d0 : 2 / 10000 ≤ σ - off := by have := bo2.2; grind
  have bvo : Wn (vl (v.o y) - vl (offBv v y)) (3023 / 1000) := by rw [ho]; exact (wn_add eo bd).of (by grind) (by grind)
  obtain ⟨f1, e1⟩ := subE B.fo fo _ bvo (by grind)
  have ed : Wn (vl (fsub (v.o y) (offBv v y)) - (σ - off)) (2 / 1000000000000000) := (wn_add e1 eo).of (by rw [ho]; grind) (by rw [u1]; grind)
  have bP : Wn (vl (ofP (uP v.f (v.ca y)))) (10053 / 10000) := (wn_add ep bp).of (show _ = vl (ofP (uP v.f (v.ca y))) - 1 by grind) Rat.le_refl |> fun h => ⟨by have := h.1; grind, by have := h.2; grind⟩
  have bG : Wn (vl (gv v)) 6500001 := ⟨by grind, g1⟩
  obtain ⟨f2, e2⟩ := mulE fg fp _ (wn_mul bG bP) (by grind)
  have b2 : Wn (vl (fmul (gv v) (ofP (uP v.f (v.ca y))))) 6535000 := (wn_add e2 (wn_mul bG bP)).of (by grind) (by rw [u1]; grind)
  have bdv : Wn (vl (fsub (v.o y) (offBv v y))) (3023 / 1000) := (wn_add ed bd).of (by grind) (by grind)
  obtain ⟨f3, e3⟩ := mulE f2 f1 _ (wn_mul b2 bdv) (by grind)
  rw [← hf] at f3 e3
  have gp : 0 ≤ vl (gv v) := by grind
  have m1 := wn_mul e2 bdv
  have m2 := wn_mul (wn_mul (wn_pos gp) ep) bdv
  have bp1 : Wn p (10053 / 10000) := by obtain ⟨_, _⟩ := bp; constructor <;> grind
  have m3 := wn_mul (wn_mul (wn_pos gp) bp1) ed
  have tot : Wn (vl (v.far y) - vl (gv v) * (p * (σ - off))) (vl (gv v) * (1 / 100000000000000)) := (wn_add e3 (wn_add m1 (wn_add m2 m3))).of (by grind) (by rw [u1]; grind)
  have p0 : 99 / 100 ≤ p := by have := bp.1; grind
  have pd0 := mul_mono (show (0 : Rat) ≤ 99 / 100 by grind) p0 (show (0 : Rat) ≤ 2 / 10000 by grind) d0
  have pd1 := (wn_mul bp1 bd).2
  have Gd0 := mul_mono (show (0 : Rat) ≤ 5900000 by grind) g0 (show (0 : Rat) ≤ 99 / 100 * (2 / 10000) by grind) pd0
  have Gd1 := mul_mono gp g1 (show 0 ≤ p * (σ - off) by grind) pd1
  exact ⟨f3, by have := tot.1; grind, by have := tot.2; grind, tot, bd.mono (by grind)⟩
end Go.Proofs.YtfhpnkmpjijebaaDoor

/- The first guess of the arc on the way back, as a float. -/
namespace Go.Proofs.YtfhpnkmpjijebaaDoor
open Go.Fp Go.Fp.Tri
set_option maxRecDepth 20000
set_option maxHeartbeats 4000000 in
theorem off_small {s c Q q : Rat} (s0 : 0 ≤ s) (bs : Wn s (101 / 100)) (bc : Wn c (101 / 100)) (bQ : Wn Q (17 / 1000)) (bq : Wn q (6 / 1000)) : Wn (OFF s c Q q) (18 / 1000 * s) := by
  have two : Wn (2 : Rat) 2 := ⟨by grind, by grind⟩
  have three : Wn (3 : Rat) 3 := ⟨by grind, by grind⟩
  have four : Wn (4 : Rat) 4 := ⟨by grind, by grind⟩
  have e1 := wn_sub (wn_mul two (wn_mul bQ bQ)) (wn_mul bq bq)
  have t0 : Wn (4 * (s * s) - 3) (3 : Rat) := by have := (wn_mul bs bs).2; have := rsq_nonneg s; constructor <;> grind
  have f1 := wn_sub (wn_mul four (wn_mul bQ bQ)) (wn_mul three (wn_mul bq bq))
  have g1 := wn_mul bQ (wn_mul t0 f1)
  have bY : Wn (Q + (c * (2 * (Q * Q) - q * q) - Q * ((4 * (s * s) - 3) * (4 * (Q * Q) - 3 * (q * q))) / 6) / 4) (18 / 1000) := by
    have a := wn_mul bc e1
    have b : Wn ((c * (2 * (Q * Q) - q * q) - Q * ((4 * (s * s) - 3) * (4 * (Q * Q) - 3 * (q * q))) / 6) / 4) (16 / 100000) := by
      have h := wn_sub a (wn_mul (show Wn (1 / 6 : Rat) (1 / 6) from ⟨by grind, by grind⟩) g1)
      have h := wn_mul (show Wn (1 / 4 : Rat) (1 / 4) from ⟨by grind, by grind⟩) h
      exact h.of (by grind) (by grind)
    exact (wn_add bQ b).mono (by grind)
  exact (wn_mul (wn_pos s0) bY).of rfl (by grind)
set_option maxHeartbeats 4000000 in
theorem first_ok {v : LineV} (e : Ends v) (ha : AOk v) {y : Nat} {d p pR : Rat} (ffar : Fp.Fin (v.far y)) (tot : Wn (vl (v.far y) - vl (gv v) * (p * d)) (vl (gv v) * (1 / 100000000000000))) (bd : Wn d (304 / 100)) (bp : Wn (p - 1) (52 / 10000))
    (fp : Fp.Fin (rvOf v y).p) (ep : Wn (vl (rvOf v y).p - pR) (1 / 1000000000000000)) (hp : Wn (pR - p) (11 / 10000000000000)) : Fp.Fin (rvOf v y).first ∧ Wn (vl (rvOf v y).first - d) (5 / 1000000000000) := by
  have u1 : uu = 1 / 9007199254740992 := uu_eq
  obtain ⟨fg, g0, g1⟩ := gv_ok ha e.ff e.f0 e.f1
  have gp : 0 < vl (gv v) := by grind
  have bG : Wn (vl (gv v)) 6500001 := ⟨by grind, g1⟩
  have bp1 : Wn p (10053 / 10000) := by obtain ⟨_, _⟩ := bp; constructor <;> grind
  have eP : Wn (vl (rvOf v y).p - p) (12 / 10000000000000) := (wn_add ep hp).of (by grind) (by grind)
  have bP : Wn (vl (rvOf v y).p) (10054 / 10000) := (wn_add eP bp1).of (by grind) (by grind)
  obtain ⟨f2, e2⟩ := mulE fg fp _ (wn_mul bG bP) (by grind)
  have hf : (rvOf v y).first = fdiv (v.far y) (fmul (gv v) (rvOf v y).p) := by
    show fdiv (can (v.far y)) _ = _
    rw [ffar.can]
  generalize hm : fmul (gv v) (rvOf v y).p = m at *
  generalize vl (gv v) = G at *
  have em : Wn (vl m - G * p) (G * (13 / 10000000000000)) := by
    have a := wn_mul (wn_pos (Rat.le_of_lt gp)) eP
    exact (wn_add e2 a).of (by grind) (by rw [u1]; grind)
  have Gp : Wn (G * (p - 1)) (G * (52 / 10000)) := wn_mul (wn_pos (Rat.le_of_lt gp)) bp
  have m0 : G * (99 / 100) ≤ vl m := by have := em.1; have := Gp.1; grind
  have mp : 0 < vl m := by grind
  -- the length against what is divided by
  have ef : Wn (vl (v.far y) - vl m * d) (G * (4 / 1000000000000)) := by
    have a := wn_mul em bd
    exact (wn_sub tot a).of (by grind) (by grind)
  have md := wn_mul (wn_pos (Rat.le_of_lt mp)) bd
  have bfar : Wn (vl (v.far y)) (305 / 100 * vl m) := (wn_add ef md).of (by grind) (by grind)
  obtain ⟨f3, e3⟩ := div_by ffar f2 mp bfar (by grind)
  rw [← hf] at f3 e3
  refine ⟨f3, wn_div mp ?_⟩
  have k : vl m * (uu * (2 * (305 / 100) + 1)) ≤ vl m * (1 / 1000000000000000) := Rat.mul_le_mul_of_nonneg_left (by rw [u1]; grind) (Rat.le_of_lt mp)
  have m2 : G ≤ vl m * (1011 / 1000) := by grind
  exact (wn_add e3 ef).of (by grind) (by grind)
end Go.Proofs.YtfhpnkmpjijebaaDoor

/- The arc on the way back: one round nearer. -/
namespace Go.Proofs.YtfhpnkmpjijebaaDoor
open Go.Fp Go.Fp.Tri
set_option maxRecDepth 20000
theorem angle_range (y x : Nat) : 0 ≤ (angleP y x).1 ∧ (angleP y x).1 ≤ 360000000000 := by
  obtain ⟨q0, q1⟩ := quad_range (absW x) (absW y)
  unfold angleP
  split
  · exact ⟨by decide, by decide⟩
  · simp only
    split
    · exact ⟨q0, by show quad (absW x) (absW y) ≤ _; omega⟩
    · split
      · exact ⟨by show 0 ≤ 180000000000 - quad (absW x) (absW y); omega, by show 180000000000 - quad (absW x) (absW y) ≤ _; omega⟩
      · split
        · exact ⟨by show 0 ≤ 180000000000 + quad (absW x) (absW y); omega, by show 180000000000 + quad (absW x) (absW y) ≤ _; omega⟩
        · exact ⟨by show 0 ≤ normP _; unfold normP; omega, by show normP _ ≤ _; unfold normP; omega⟩
set_option maxHeartbeats 8000000 in
/-- the points of the arc's guess -/
theorem guess_ok {v : LineV} (h1 : RedOk v.f v.latA) (h2 : RedOk v.f v.latB) {y : Nat} (A : LineA v y) (B : LineB v y) (Z : Azi v y) {o : Nat} (fo : Fp.Fin o) {ε : Rat} (ho : Wn (vl o - (oIv v y : Rat) * rho) ε) (hε : ε ≤ 1 / 50) :
    MB ((cis (nearP o)).sub ⟨vl (v.cs y), vl (v.ss y)⟩) (1005 / 1000 * ε + 75 / 1000000000000) ∧ Wn ((nearP o : Rat) * rho - vl o) (9 / 1000000000000) ∧
    Wn (vl (rvOf v y).ca * vl (cosP (nearP (fadd (fmul (can c2) (rvOf v y).s1) o))) - mv v y) (62 / 100000000000 + 1007 / 1000 * ε) := by
  have u1 : uu = 1 / 9007199254740992 := uu_eq
  have p := rho_pos
  have ε0 := ho.nonneg
  obtain ⟨a0, a1⟩ := arc_le B.o0 B.o1
  have bo : Wn (vl o) (317 / 100) := (wn_add ho (show Wn ((oIv v y : Rat) * rho) (31418 / 10000) from ⟨by grind, a1⟩)).of (by grind) (by grind)
  have ne := near_16 fo (bo.mono (by grind))
  -- the whole number beside the arc's
  obtain ⟨D, hD⟩ : ∃ D, D = nearP o - oIv v y := ⟨_, rfl⟩
  have dD : Wn ((D : Rat) * rho) (ε + 9 / 1000000000000) := by
    refine (wn_add ne ho).of ?_ (by grind)
    rw [hD, Rat.intCast_sub]; grind
  obtain ⟨b, hb⟩ : ∃ b : Int, b = if D < 0 then -D else D := ⟨_, rfl⟩
  have b1 : -b ≤ D ∧ D ≤ b := by rw [hb]; split <;> omega
  have bρ : (b : Rat) * rho ≤ ε + 9 / 1000000000000 := by
    rw [hb]
    split
    · rw [Rat.intCast_neg]; have := dD.1; grind
    · exact dD.2
  have b5 : b ≤ 5000000000 := by
    rcases Int.lt_or_le 5000000000 b with q | q
    · exfalso
      have h := Rat.mul_le_mul_of_nonneg_right (castle (show (5000000000 : Int) ≤ b by omega)) (Rat.le_of_lt p)
      have := rho_lo
      have e : ((5000000000 : Int) : Rat) = 5000000000 := rfl
      rw [e] at h
      grind
    · exact q
  have ch := cis_chord (a := oIv v y) b1.1 b1.2 b5
  rw [show oIv v y + D = nearP o by omega] at ch
  have m2 : MB (⟨(cis (oIv v y)).re - vl (v.cs y), (cis (oIv v y)).im - vl (v.ss y)⟩ : Cx) (6 / 100000000000) := MB.of B.oc B.os (by grind) (by grind)
  have hn : MB ((cis (nearP o)).sub ⟨vl (v.cs y), vl (v.ss y)⟩) (1005 / 1000 * ε + 75 / 1000000000000) := ((ch.add m2).cast (Cx.ext' (by simp; grind) (by simp; grind))).mono (by grind)
  refine ⟨hn, ne, ?_⟩
  -- the middle
  obtain ⟨s0, s1⟩ := angle_range (rvOf v y).su (fmul (rvOf v y).cu (rvOf v y).ca1)
  obtain ⟨f1, e1⟩ := rad_near (n := s1I v y) (B := 360000000000) (by show -360000000000 ≤ (angleP _ _).1; omega) s1 (by omega)
  have hs : (rvOf v y).s1 = radP (s1I v y) := rfl
  rw [← hs] at f1 e1
  have bS : Wn ((s1I v y : Rat) * rho) (62835 / 10000) := by
    refine (rho_int (d := s1I v y) (B := 360000000000) (by show -360000000000 ≤ (angleP _ _).1; omega) s1).mono ?_
    have := rho_hi
    have e : ((360000000000 : Int) : Rat) = 360000000000 := rfl
    rw [e]; grind
  have bs1 : Wn (vl (rvOf v y).s1) (62836 / 10000) := (wn_add e1 bS).of (by grind) (by grind)
  obtain ⟨f2, e2⟩ := mulE v_c2.1 f1 (126 / 10) (by rw [v_c2.2]; obtain ⟨_, _⟩ := bs1; constructor <;> grind) (by grind)
  rw [v_c2.2] at e2
  have b2 : Wn (vl (fmul (can c2) (rvOf v y).s1)) (1257 / 100) := by obtain ⟨_, _⟩ := bs1; obtain ⟨_, _⟩ := e2; rw [u1] at *; constructor <;> grind
  obtain ⟨f3, e3⟩ := addE f2 fo _ (wn_add b2 bo) (by grind)
  have b3 : Wn (vl (fadd (fmul (can c2) (rvOf v y).s1) o)) 16 := (wn_add e3 (wn_add b2 bo)).of (by grind) (by rw [u1]; grind)
  have ne2 := near_16 f3 b3
  have two : Wn (2 : Rat) 2 := ⟨by grind, by grind⟩
  obtain ⟨d, hd⟩ : ∃ d, d = nearP (fadd (fmul (can c2) (rvOf v y).s1) o) - (2 * s1I v y + nearP o) := ⟨_, rfl⟩
  have dd : Wn ((d : Rat) * rho) (2 / 100000000000) := by
    have w := wn_sub (wn_add ne2 (wn_add e3 (wn_add e2 (wn_mul two e1)))) ne
    refine w.of ?_ (by rw [u1]; grind)
    rw [hd, Rat.intCast_sub, Rat.intCast_add, Rat.intCast_mul]
    have e : ((2 : Int) : Rat) = 2 := rfl
    rw [e]; grind
  have d1 : -2 ≤ d := by
    rcases Int.lt_or_le d (-2) with q | q
    · exfalso
      have h := Rat.mul_le_mul_of_nonneg_right (castle (show d ≤ -2 by omega)) (Rat.le_of_lt p)
      have := rho_lo
      have e : ((-2 : Int) : Rat) = -2 := rfl
      rw [e] at h
      have := dd.1
      grind
    · exact q
  have d2 : d ≤ 2 := by
    rcases Int.lt_or_le 2 d with q | q
    · exfalso
      have h := Rat.mul_le_mul_of_nonneg_right (castle (show 2 ≤ d by omega)) (Rat.le_of_lt p)
      have := rho_lo
      have e : ((2 : Int) : Rat) = 2 := rfl
      rw [e] at h
      have := dd.2
      grind
    · exact q
  refine (mid_ok h1 h2 A B Z hn (by grind) (by omega) (by omega)).mono (by grind)
end Go.Proofs.YtfhpnkmpjijebaaDoor

/- The arc on the way back: it is the line's. -/
namespace Go.Proofs.YtfhpnkmpjijebaaDoor
open Go.Fp Go.Fp.Tri
set_option maxRecDepth 20000
set_option maxHeartbeats 8000000 in
theorem fix_step {v : LineV} (e : Ends v) {y : Nat} (A : LineA v y) (B : LineB v y) (Z : Azi v y) {κ : Rat} (c : LineC v y κ) {lam off : Rat}
    (el : Wn (lam - lamF (Wf v.f) (vl (v.ca y))) (1 / 1000000000000000)) (bl : Wn lam (524 / 100000)) (eo : Wn (off - OFF (vl (v.ss y)) (vl (v.cs y)) (lam * mv v y) (lam * vl (v.ca y))) (2 / 1000000000000)) (bo : Wn off (175 / 10000))
    (ff : Fp.Fin (rvOf v y).first) (ef : Wn (vl (rvOf v y).first - ((oIv v y : Rat) * rho - off)) (5 / 1000000000000)) {o : Nat} (fo : Fp.Fin o) {ε : Rat} (ho : Wn (vl o - (oIv v y : Rat) * rho) ε) (hε : ε ≤ 1 / 50) :
    Fp.Fin (oStep (rvOf v y).s1 (rvOf v y).q (rvOf v y).first o) ∧ Wn (vl (oStep (rvOf v y).s1 (rvOf v y).q (rvOf v y).first o) - (oIv v y : Rat) * rho) (25 / 1000 * ε + 14 / 1000000000000) := by
  have u1 : uu = 1 / 9007199254740992 := uu_eq
  have ε0 := ho.nonneg
  obtain ⟨hn, _, hm⟩ := guess_ok e.h1 e.h2 A B Z fo ho hε
  obtain ⟨n, hnn⟩ : ∃ n, n = nearP o := ⟨_, rfl⟩
  obtain ⟨n', hnn'⟩ : ∃ n', n' = nearP (fadd (fmul (can c2) (rvOf v y).s1) o) := ⟨_, rfl⟩
  rw [← hnn] at hn
  rw [← hnn'] at hm
  obtain ⟨⟨fc, e1⟩, ⟨fs, e2⟩⟩ := cis_near n
  obtain ⟨⟨fm, e3⟩, _⟩ := cis_near n'
  unfold tol at e1 e2 e3
  have bC := (cis_bd n).re
  have bS := (cis_bd n).im
  have bM := (cis_bd n').re
  have hst : oStep (rvOf v y).s1 (rvOf v y).q (rvOf v y).first o = fadd (rvOf v y).first (offP (rvOf v y).q (sinP n) (cosP n) (cosP n')) := by
    unfold oStep; rw [← hnn, ← hnn', fs.can, fc.can, fm.can]
  have bs : Wn (vl (sinP n)) (1001 / 1000) := (wn_add e2 bS).of (by grind) (by grind)
  have bc : Wn (vl (cosP n)) (1001 / 1000) := (wn_add e1 bC).of (by grind) (by grind)
  have bm : Wn (vl (cosP n')) (1001 / 1000) := (wn_add e3 bM).of (by grind) (by grind)
  have hr := hn.im
  have hc := hn.re
  simp at hr hc
  have br : Wn (vl (v.ss y)) (1001 / 1000) := ⟨by have := B.r0; grind, B.r1⟩
  -- the number q
  have bca : Wn (vl (v.ca y)) (1000001 / 1000000) := ⟨by have := B.ca0; grind, B.ca1⟩
  have dca := Z.dca
  have bcar : Wn (vl (rvOf v y).ca) (1000002 / 1000000) := (wn_add dca bca).of (by grind) (by grind)
  have bsar : Wn (vl (rvOf v y).sa) (1001 / 1000) := (wn_add Z.dsa B.bsa).of (by grind) (by grind)
  have hcar : (rvOf v y).ca = fsub c1 (fmul (rvOf v y).sa (rvOf v y).sa) := by unfold ReachV.ca; rw [c1_can]
  have nca := nca_gen Z.fsa bsar
  rw [← hcar] at nca
  obtain ⟨lr, fq, eq, elr, _, _⟩ := qp_gen e.ff e.f0 e.f1 Z.fca (bcar.mono (by grind)) nca
  obtain ⟨_, _, _, _, _, bW⟩ := wf_ok e.ff e.f0 e.f1
  obtain ⟨dl, _, _, _⟩ := lam_near bW (bca.mono (show _ ≤ (1001 / 1000 : Rat) by grind)) (bcar.mono (show _ ≤ (1001 / 1000 : Rat) by grind)) dca
  have dlam : Wn (lr - lam) (15 / 1000000000000000) := (wn_sub (wn_add elr dl) el).of (by grind) (by grind)
  have blr : Wn lr (525 / 100000) := (wn_add dlam bl).of (by grind) (by grind)
  have hq : (rvOf v y).q = ofQ (uP v.f (rvOf v y).ca) := rfl
  rw [← hq] at fq eq
  have bq : Wn (vl (rvOf v y).q) (6 / 1000) := by rw [eq]; exact (wn_mul blr bcar).mono (by grind)
  have K0 : Wn (vl (rvOf v y).ca * vl (cosP n')) (1002 / 1000) := (wn_mul bcar bm).mono (by grind)
  have eqK : vl (rvOf v y).q * vl (cosP n') = lr * (vl (rvOf v y).ca * vl (cosP n')) := by rw [eq]; grind
  have bqK : Wn (vl (rvOf v y).q * vl (cosP n')) (6 / 1000) := by rw [eqK]; exact (wn_mul blr K0).mono (by grind)
  have bqK' := rabs_le (bqK.mono (show _ ≤ (2 / 100 : Rat) by grind))
  rw [rabs_mul] at bqK'
  have rm := rabs_le bm
  obtain ⟨fO, eO⟩ := off_gen fq fc fs fm (bc.mono (by grind)) (bs.mono (by grind)) (rabs_le bq) (by grind) bqK'
  -- against the line's
  have bQ2 : Wn (lam * mv v y) (17 / 1000) := (wn_mul bl c.bm).mono (by grind)
  have bq2 : Wn (lam * vl (v.ca y)) (6 / 1000) := (wn_mul bl bca).mono (by grind)
  have dq : Wn (vl (rvOf v y).q - lam * vl (v.ca y)) (12 / 10000000000000) := by
    rw [eq]
    exact (wn_add (wn_mul blr dca) (wn_mul dlam bca)).of (by grind) (by grind)
  have dQ : Wn (vl (sinP n) * (vl (rvOf v y).q * vl (cosP n') - lam * mv v y)) (54 / 10000 * ε + 34 / 10000000000000) := by
    have k := wn_mul bs (wn_add (wn_mul blr hm) (wn_mul dlam c.bm))
    exact k.of (by rw [eqK]; grind) (by grind)
  have dif := off_lip (br.mono (show _ ≤ (101 / 100 : Rat) by grind)) A.bcs (bs.mono (show _ ≤ (101 / 100 : Rat) by grind)) (bc.mono (show _ ≤ (101 / 100 : Rat) by grind)) bQ2 (bqK.mono (show _ ≤ (17 / 1000 : Rat) by grind)) bq2 bq
    (η := 1005 / 1000 * ε + 76 / 1000000000000) ((wn_add e2 hr).of (by grind) (by grind)) ((wn_add e1 hc).of (by grind) (by grind)) dQ dq
  have tot : Wn (vl (offP (rvOf v y).q (sinP n) (cosP n) (cosP n')) - off) (24 / 1000 * ε + 75 / 10000000000000) := (wn_sub (wn_add eO dif) eo).of (by unfold OFF; grind) (by grind)
  have boff : Wn (vl (offP (rvOf v y).q (sinP n) (cosP n) (cosP n'))) (19 / 1000) := (wn_add tot bo).of (by grind) (by grind)
  obtain ⟨a0, a1⟩ := arc_le B.o0 B.o1
  have bf : Wn (vl (rvOf v y).first) (317 / 100) := (wn_add ef (wn_sub (show Wn ((oIv v y : Rat) * rho) (31418 / 10000) from ⟨by grind, a1⟩) bo)).of (by grind) (by grind)
  obtain ⟨f4, e4⟩ := addE ff fO _ (wn_add bf boff) (by grind)
  rw [hst]
  exact ⟨f4, (wn_add e4 (wn_add ef tot)).of (by grind) (by rw [u1]; grind)⟩
theorem fix_all {v : LineV} (e : Ends v) {y : Nat} (A : LineA v y) (B : LineB v y) (Z : Azi v y) {κ : Rat} (c : LineC v y κ) {lam off : Rat}
    (el : Wn (lam - lamF (Wf v.f) (vl (v.ca y))) (1 / 1000000000000000)) (bl : Wn lam (524 / 100000)) (eo : Wn (off - OFF (vl (v.ss y)) (vl (v.cs y)) (lam * mv v y) (lam * vl (v.ca y))) (2 / 1000000000000)) (bo : Wn off (175 / 10000))
    (ff : Fp.Fin (rvOf v y).first) (ef : Wn (vl (rvOf v y).first - ((oIv v y : Rat) * rho - off)) (5 / 1000000000000)) :
    ∀ k : Nat, Fp.Fin (oIt (rvOf v y).s1 (rvOf v y).q (rvOf v y).first k) ∧ Wn (vl (oIt (rvOf v y).s1 (rvOf v y).q (rvOf v y).first k) - (oIv v y : Rat) * rho) (2 / 100000000000 + 18 / 1000 * (1 / 20) ^ k) := by
  intro k
  induction k with
  | zero =>
    refine ⟨ff, ?_⟩
    show Wn (vl (rvOf v y).first - (oIv v y : Rat) * rho) _
    have : (1 / 20 : Rat) ^ 0 = 1 := by decide +kernel
    rw [this]
    exact (wn_sub ef bo).of (by grind) (by grind)
  | succ k ih =>
    have p0 : (0 : Rat) ≤ (1 / 20) ^ k := Rat.pow_nonneg (by decide +kernel)
    have p1 : (1 / 20 : Rat) ^ k ≤ 1 := by
      clear ih
      induction k with
      | zero => decide +kernel
      | succ k h => 
        have q0 : (0 : Rat) ≤ (1 / 20) ^ k := Rat.pow_nonneg (by decide +kernel)
        rw [Rat.pow_succ]
        have := h q0
        grind
    have ps : (1 / 20 : Rat) ^ (k + 1) = (1 / 20) ^ k * (1 / 20) := Rat.pow_succ _ _
    obtain ⟨f, h⟩ := fix_step e A B Z c el bl eo bo ff ef ih.1 ih.2 (by grind)
    refine ⟨f, ?_⟩
    show Wn (vl (oStep _ _ _ _) - _) _
    rw [ps]
    exact h.mono (by grind)
theorem fix_end {v : LineV} (e : Ends v) {y : Nat} (A : LineA v y) (B : LineB v y) (Z : Azi v y) {κ : Rat} (c : LineC v y κ) {lam off : Rat}
    (el : Wn (lam - lamF (Wf v.f) (vl (v.ca y))) (1 / 1000000000000000)) (bl : Wn lam (524 / 100000)) (eo : Wn (off - OFF (vl (v.ss y)) (vl (v.cs y)) (lam * mv v y) (lam * vl (v.ca y))) (2 / 1000000000000)) (bo : Wn off (175 / 10000))
    (ff : Fp.Fin (rvOf v y).first) (ef : Wn (vl (rvOf v y).first - ((oIv v y : Rat) * rho - off)) (5 / 1000000000000)) :
    Fp.Fin (rvOf v y).o ∧ Wn (vl (rvOf v y).o - (oIv v y : Rat) * rho) (21 / 1000000000000) := by
  obtain ⟨f, h⟩ := fix_all e A B Z c el bl eo bo ff ef 60
  have : (1 / 20 : Rat) ^ 60 ≤ 1 / 100000000000000 := by decide +kernel
  exact ⟨f, h.mono (by grind)⟩
end Go.Proofs.YtfhpnkmpjijebaaDoor

/- The way back: what is known of it, joined. -/
namespace Go.Proofs.YtfhpnkmpjijebaaDoor
open Go.Fp Go.Fp.Tri
set_option maxRecDepth 20000
/-- the geodesic found and the way along it -/
structure Way (v : LineV) (y : Nat) : Prop where
  A : LineA v y
  B : LineB v y
  C : ∃ κ, LineC v y κ
  Z : Azi v y
  ffar : Fp.Fin (v.far y)
  far0 : 0 ≤ vl (v.far y)
  far1 : vl (v.far y) ≤ 20000000
  fo : Fp.Fin (rvOf v y).o
  eo : Wn (vl (rvOf v y).o - (oIv v y : Rat) * rho) (21 / 1000000000000)
  hn : MB ((cis (nearP (rvOf v y).o)).sub ⟨vl (v.cs y), vl (v.ss y)⟩) (1 / 10000000000)
  hm : Wn (vl (rvOf v y).ca * vl (cosP (nearP (fadd (fmul (can c2) (rvOf v y).s1) (rvOf v y).o))) - mv v y) (65 / 100000000000)
set_option maxHeartbeats 4000000 in
theorem way_ok {v : LineV} (e : Ends v) (ha : AOk v) {g : Int} {y : Nat} (h : At v g y) : Way v y := by
  obtain ⟨j, w⟩ := h.w
  obtain ⟨A, B, _, _⟩ := line_at e w
  obtain ⟨_, h1⟩ := within_cs e w (X := CSv v y) rfl
  obtain ⟨κ, c⟩ := line_c e.ff e.f0 e.f1 e.h1 e.h2 A B
  have Z := azi_ok e.h1 e.h2 A B
  obtain ⟨lam, fO, el, bl, eo, bo, fp, ep⟩ := offB_ok e A B c
  have bca : Wn (vl (v.ca y)) (1000001 / 1000000) := ⟨by have := B.ca0; grind, B.ca1⟩
  have br : Wn (vl (v.ss y)) (1001 / 1000) := ⟨by have := B.r0; grind, B.r1⟩
  have sm := off_small (s := vl (v.ss y)) (c := vl (v.cs y)) (Q := lam * mv v y) (q := lam * vl (v.ca y)) (by have := B.r0; grind) (br.mono (by grind)) A.bcs ((wn_mul bl c.bm).mono (by grind)) ((wn_mul bl bca).mono (by grind))
  have bo2 : Wn (vl (offBv v y)) (18 / 1000 * vl (v.ss y) + 1 / 100000000000) := (wn_add eo sm).of (by grind) (by grind)
  obtain ⟨_, _, _, _, _, bW⟩ := wf_ok e.ff e.f0 e.f1
  have dca := Z.dca
  have bcar : Wn (vl (rvOf v y).ca) (1000002 / 1000000) := (wn_add dca bca).of (by grind) (by grind)
  obtain ⟨_, dp, _, bp⟩ := lam_near bW (bca.mono (show _ ≤ (1001 / 1000 : Rat) by grind)) (bcar.mono (show _ ≤ (1001 / 1000 : Rat) by grind)) dca
  obtain ⟨ffar, f0, f1, tot, bd⟩ := far_ok e ha A B c h1 fO rfl bo bo2 fp ep bp
  have bsar : Wn (vl (rvOf v y).sa) (1001 / 1000) := (wn_add Z.dsa B.bsa).of (by grind) (by grind)
  have hcar : (rvOf v y).ca = fsub c1 (fmul (rvOf v y).sa (rvOf v y).sa) := by unfold ReachV.ca; rw [c1_can]
  have nca := nca_gen Z.fsa bsar
  rw [← hcar] at nca
  obtain ⟨_, _, _, _, fpr, epr⟩ := qp_gen e.ff e.f0 e.f1 Z.fca (bcar.mono (by grind)) nca
  obtain ⟨ff, ef⟩ := first_ok e ha ffar tot bd bp fpr epr (dp.mono (by grind))
  obtain ⟨fo, ho⟩ := fix_end e A B Z c el bl eo bo ff ef
  obtain ⟨hn, _, hm⟩ := guess_ok e.h1 e.h2 A B Z fo ho (by grind)
  exact ⟨A, B, ⟨κ, c⟩, Z, ffar, f0, f1, fo, ho, hn.mono (by grind), hm.mono (by grind)⟩
end Go.Proofs.YtfhpnkmpjijebaaDoor

/- The place reached: how far north. -/
namespace Go.Proofs.YtfhpnkmpjijebaaDoor
open Go.Fp Go.Fp.Tri
set_option maxRecDepth 20000
/-- the arc's sine and cosine there -/
theorem arc_there {v : LineV} {y : Nat} (w : Way v y) : Fp.Fin (rvOf v y).ss ∧ Fp.Fin (rvOf v y).cs ∧ Wn (vl (rvOf v y).ss - vl (v.ss y)) (101 / 1000000000000) ∧ Wn (vl (rvOf v y).cs - vl (v.cs y)) (101 / 1000000000000) := by
  obtain ⟨⟨fc, e1⟩, ⟨fs, e2⟩⟩ := cis_near (nearP (rvOf v y).o)
  unfold tol at e1 e2
  have hr := w.hn.im
  have hc := w.hn.re
  simp at hr hc
  have h1 : (rvOf v y).ss = sinP (nearP (rvOf v y).o) := fs.can
  have h2 : (rvOf v y).cs = cosP (nearP (rvOf v y).o) := fc.can
  rw [h1, h2]
  exact ⟨fs, fc, (wn_add e2 hr).of (by grind) (by grind), (wn_add e1 hc).of (by grind) (by grind)⟩
abbrev zR (v : LineV) (y : Nat) : Nat := fadd (fmul (rvOf v y).su (rvOf v y).cs) (fmul (fmul (rvOf v y).cu (rvOf v y).ss) (rvOf v y).ca1)
set_option maxHeartbeats 4000000 in
theorem z_ok {v : LineV} (e : Ends v) {y : Nat} (w : Way v y) : Fp.Fin (zR v y) ∧ Wn (vl (zR v y) - vl v.su2) (3 / 10000000000) := by
  have u1 : uu = 1 / 9007199254740992 := uu_eq
  obtain ⟨fs, fc, es, ec⟩ := arc_there w
  have Z := w.Z
  have A := w.A
  have B := w.B
  have br : Wn (vl (v.ss y)) (1001 / 1000) := ⟨by have := B.r0; grind, B.r1⟩
  have bs : Wn (vl (rvOf v y).ss) (1002 / 1000) := (wn_add es br).of (by grind) (by grind)
  have bc : Wn (vl (rvOf v y).cs) (102 / 100) := (wn_add ec A.bcs).of (by grind) (by grind)
  have fcu : Fp.Fin v.cu1 := e.h1.fc
  have fsu : Fp.Fin v.su1 := e.h1.fs
  have bcu : Wn (vl v.cu1) (1001 / 1000) := e.h1.bc
  have bsu : Wn (vl v.su1) (9948 / 10000) := e.h1.bs
  have bs2 : Wn (vl v.su2) (9948 / 10000) := e.h2.bs
  have n1 : Wn (vl v.cu1 * vl v.cu1 + vl v.su1 * vl v.su1 - 1) (1 / 100000000000000) := e.h1.one
  have hz : zR v y = fadd (fmul v.su1 (rvOf v y).cs) (fmul (fmul v.cu1 (rvOf v y).ss) (rvOf v y).ca1) := rfl
  rw [hz]
  obtain ⟨f1, e1⟩ := mulE fsu fc _ (wn_mul bsu bc) (by grind)
  have b1 : Wn (vl (fmul v.su1 (rvOf v y).cs)) (102 / 100) := (wn_add e1 (wn_mul bsu bc)).of (by grind) (by rw [u1]; grind)
  obtain ⟨f2, e2⟩ := mulE fcu fs _ (wn_mul bcu bs) (by grind)
  have b2 : Wn (vl (fmul v.cu1 (rvOf v y).ss)) (1004 / 1000) := (wn_add e2 (wn_mul bcu bs)).of (by grind) (by rw [u1]; grind)
  obtain ⟨f3, e3⟩ := mulE f2 Z.fc1 _ (wn_mul b2 Z.bc1) (by grind)
  have b3 : Wn (vl (fmul (fmul v.cu1 (rvOf v y).ss) (rvOf v y).ca1)) (1006 / 1000) := (wn_add e3 (wn_mul b2 Z.bc1)).of (by grind) (by rw [u1]; grind)
  obtain ⟨f4, e4⟩ := addE f1 f3 _ (wn_add b1 b3) (by grind)
  refine ⟨f4, ?_⟩
  have k1 := wn_mul bsu ec
  have k2 := wn_mul (wn_mul bcu es) Z.bc1
  have k3 := wn_mul bcu Z.et
  have k4 : Wn (vl v.su1 * (vl (v.cs y) - (vl v.su1 * vl v.su2 + vl v.cu1 * vl v.cu2 * (cis (nearP y)).re)) + vl v.cu1 * (vl (v.t y) - (vl v.cu1 * vl v.su2 - vl v.su1 * vl v.cu2 * (cis (nearP y)).re))) _ := wn_add (wn_mul bsu A.ecs) (wn_mul bcu A.et)
  have k5 := wn_mul n1 bs2
  have r1 := B.r1
  have tot := wn_add (wn_add e4 (wn_add e1 (wn_add e3 (wn_mul e2 Z.bc1)))) (wn_add (wn_add k1 k2) (wn_add k3 (wn_add k4 k5)))
  exact tot.of (by grind) (by rw [u1]; grind)
end Go.Proofs.YtfhpnkmpjijebaaDoor
