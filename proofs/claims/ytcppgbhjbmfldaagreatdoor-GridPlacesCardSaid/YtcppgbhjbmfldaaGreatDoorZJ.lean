/- How much longer things are, along and across: alike where angles stay, and areas stay where they are to. -/
import Derived.Test.YtcppgbhjbmfldaaGreatDoorZI
namespace Go.Fp.Tri
open Go.Fp Ieee
set_option maxRecDepth 20000

theorem Rl.cast {x : Nat} {v u ε : Rat} (h : Rl x v ε) (e : v = u) : Rl x u ε := e ▸ h
set_option maxHeartbeats 2000000 in
/-- across, and along where angles stay: both r S / (a c) -/
theorem stretch_near {r O w c a S : Nat} (hr : Fin r) (r1 : 1 / 10 ≤ vl r) (r2 : vl r ≤ 10000000000) (hO : Fin O) (o1 : 9 / 10 ≤ vl O) (o2 : vl O ≤ 11 / 10) (hw : Fin w) (w1 : 9 / 10 ≤ vl w) (w2 : vl w ≤ 11 / 10)
    (hc : Fin c) (c1 : 1 / 100 ≤ vl c) (c2 : vl c ≤ 11 / 10) (ha : Fin a) (a1 : 1000000 ≤ vl a) (a2 : vl a ≤ 10000000) (hS : Fin S) (s1 : 9 / 10 ≤ vl S) (s2 : vl S ≤ 11 / 10) :
    Rl (fdiv r (fmul (fdiv a S) c)) (vl r * vl S / (vl a * vl c)) (10 * uu) ∧ Rl (fdiv (fdiv (fmul r O) (fmul w c)) (fdiv (fmul a O) (fmul w S))) (vl r * vl S / (vl a * vl c)) (20 * uu) ∧ Sz (vl r * vl S / (vl a * vl c)) ∧ vl r * vl S / (vl a * vl c) ≤ 10000000000 ∧ 1 / 10000000000 ≤ vl r * vl S / (vl a * vl c) := by
  have u1 : uu = 1 / 9007199254740992 := uu_eq
  have Hr := Rl.exact hr (by grind)
  have HO := Rl.exact hO (by grind)
  have Hw := Rl.exact hw (by grind)
  have Hc := Rl.exact hc (by grind)
  have Ha := Rl.exact ha (by grind)
  have HS := Rl.exact hS (by grind)
  generalize vl r = R at *
  generalize vl O = o at *
  generalize vl w = v at *
  generalize vl c = k at *
  generalize vl a = A at *
  generalize vl S = s at *
  have z : (0 : Rat) ≤ 1 / 1000000000 := by grind
  -- sizes of products and quotients
  have mulSz : ∀ {x y X1 X2 Y1 Y2 : Rat}, 0 ≤ X1 → X1 ≤ x → x ≤ X2 → 0 ≤ Y1 → Y1 ≤ y → y ≤ Y2 → X1 * Y1 ≤ x * y ∧ x * y ≤ X2 * Y2 := by
    intro x y X1 X2 Y1 Y2 h1 h2 h3 h4 h5 h6
    constructor
    · have t1 := Rat.mul_le_mul_of_nonneg_right h2 h4
      have t2 := Rat.mul_le_mul_of_nonneg_left h5 (show 0 ≤ x by grind)
      exact Rat.le_trans t1 t2
    · have t1 := Rat.mul_le_mul_of_nonneg_right h3 (show 0 ≤ y by grind)
      have t2 := Rat.mul_le_mul_of_nonneg_left h6 (show 0 ≤ X2 by grind)
      exact Rat.le_trans t1 t2
  have divSz : ∀ {x y L H : Rat}, 0 < y → L * y ≤ x → x ≤ H * y → L ≤ x / y ∧ x / y ≤ H := by
    intro x y L H hy h1 h2
    have e : x / y * y = x := by grind
    constructor
    · have : y * L ≤ y * (x / y) := by grind
      exact le_of_scaled hy this
    · have : y * (x / y) ≤ y * H := by grind
      exact le_of_scaled hy this
  -- N = a / S
  obtain ⟨n1, n2⟩ := divSz (x := A) (y := s) (L := 100000) (H := 100000000) (by grind) (by grind) (by grind)
  have HN := divR Ha HS z z ⟨by grind, by grind⟩
  obtain ⟨nk1, nk2⟩ := mulSz (x := A / s) (y := k) (show (0 : Rat) ≤ 100000 by grind) n1 n2 (show (0 : Rat) ≤ 1 / 100 by grind) c1 c2
  have HNc := mulR HN Hc (by rw [u1]; grind) z ⟨by grind, by grind⟩
  obtain ⟨t1, t2⟩ := divSz (x := R) (y := A / s * k) (L := 1 / 10000000000) (H := 100000000) (by grind) (by grind) (by grind)
  have HA := divR Hr HNc z (by rw [u1]; grind) ⟨by grind, by grind⟩
  have eT : R / (A / s * k) = R * s / (A * k) := by grind
  -- along
  obtain ⟨ro1, ro2⟩ := mulSz (x := R) (y := o) (show (0 : Rat) ≤ 1 / 10 by grind) r1 r2 (show (0 : Rat) ≤ 9 / 10 by grind) o1 o2
  have Hro := mulR Hr HO z z ⟨by grind, by grind⟩
  obtain ⟨wk1, wk2⟩ := mulSz (x := v) (y := k) (show (0 : Rat) ≤ 9 / 10 by grind) w1 w2 (show (0 : Rat) ≤ 1 / 100 by grind) c1 c2
  have Hwk := mulR Hw Hc z z ⟨by grind, by grind⟩
  obtain ⟨q1, q2⟩ := divSz (x := R * o) (y := v * k) (L := 1 / 1000) (H := 10000000000000) (by grind) (by grind) (by grind)
  have HQ := divR Hro Hwk (by rw [u1]; grind) (by rw [u1]; grind) ⟨by grind, by grind⟩
  obtain ⟨ao1, ao2⟩ := mulSz (x := A) (y := o) (show (0 : Rat) ≤ 1000000 by grind) a1 a2 (show (0 : Rat) ≤ 9 / 10 by grind) o1 o2
  have Hao := mulR Ha HO z z ⟨by grind, by grind⟩
  obtain ⟨ws1, ws2⟩ := mulSz (x := v) (y := s) (show (0 : Rat) ≤ 9 / 10 by grind) w1 w2 (show (0 : Rat) ≤ 9 / 10 by grind) s1 s2
  have Hws := mulR Hw HS z z ⟨by grind, by grind⟩
  obtain ⟨m1, m2⟩ := divSz (x := A * o) (y := v * s) (L := 100000) (H := 100000000) (by grind) (by grind) (by grind)
  have HM := divR Hao Hws (by rw [u1]; grind) (by rw [u1]; grind) ⟨by grind, by grind⟩
  obtain ⟨l1, l2⟩ := divSz (x := R * o / (v * k)) (y := A * o / (v * s)) (L := 1 / 1000000000000) (H := 1000000000) (by grind) (by grind) (by grind)
  have HL := divR HQ HM (by rw [u1]; grind) (by rw [u1]; grind) ⟨by grind, by grind⟩
  have eL : R * o / (v * k) / (A * o / (v * s)) = R * s / (A * k) := by grind
  rw [eT] at t1 t2
  have F1 := (HA.cast eT).mono (show _ ≤ 10 * uu by rw [u1]; grind)
  have F2 := (HL.cast eL).mono (show _ ≤ 20 * uu by rw [u1]; grind)
  clear HA HL HM HQ Hro Hwk Hao Hws HN HNc Hr HO Hw Hc Ha HS eT eL l1 l2 m1 m2 q1 q2 n1 n2 nk1 nk2 ro1 ro2 wk1 wk2 ao1 ao2 ws1 ws2 mulSz divSz
  generalize R * s / (A * k) = Q at *
  exact ⟨F1, F2, ⟨by grind, by grind⟩, by grind, by grind⟩
theorem v_m12 : Fin 4427486594234968593 ∧ vl 4427486594234968593 = 4951760157141521 / 4951760157141521099596496896 := vl_const (s := false) (m := 4951760157141521) (k := 92) (by decide +kernel) (by decide +kernel)
theorem neg_m12 : Op.negFloat .f64 4427486594234968593 = 13650858631089744401 := by decide +kernel
/-- along and across are alike -/
theorem shape_ok {al ac : Nat} {T : Rat} (h1 : Rl al T (20 * uu)) (h2 : Rl ac T (10 * uu)) (t1 : 1 / 10000000000 ≤ T) (t2 : T ≤ 10000000000) :
    Fin (fsub al ac) ∧ Fin (fmul 4427486594234968593 ac) ∧ fle (fsub al ac) (fmul 4427486594234968593 ac) = true ∧ fge (fsub al ac) (Op.negFloat .f64 (fmul 4427486594234968593 ac)) = true := by
  have u1 : uu = 1 / 9007199254740992 := uu_eq
  have es := eta_small
  have d := wn_sub h1.err h2.err
  have d' : Wn (vl al - vl ac) (T * (30 * uu)) := d.of (by grind) (by grind)
  obtain ⟨f1, e1⟩ := fsub_err h1.fx h2.fx _ d' (big30' (by rw [u1]; grind))
  have d2 : Wn (vl (fsub al ac)) (T * (31 * uu)) := (wn_add e1 d').of (by grind) (by rw [u1] at *; grind)
  have lo := h2.lo (by rw [u1]; grind)
  have hi := h2.hi (by rw [u1]; grind)
  have bac : Wn (vl ac) (T * (1001 / 1000)) := ⟨by grind, hi⟩
  have b12 : Wn (vl 4427486594234968593) (2 / 1000000000000) := by rw [v_m12.2]; constructor <;> grind
  have bm := wn_mul b12 bac
  obtain ⟨f2, e2⟩ := fmul_err v_m12.1 h2.fx _ bm (big30' (by grind))
  have hm : T * (98 / 100000000000000) ≤ vl (fmul 4427486594234968593 ac) := by
    have g := e2.1
    rw [v_m12.2] at g
    rw [u1] at *
    grind
  obtain ⟨fn, vn⟩ := vl_neg _ f2
  refine ⟨f1, f2, (fle_vl f1 f2).2 ?_, (fge_vl f1 fn).2 ?_⟩
  · have := d2.2
    rw [u1] at this
    grind
  · rw [vn]
    have := d2.1
    rw [u1] at this
    grind
/-- along times across -/
theorem area_ok {ac : Nat} {T : Rat} (h2 : Rl ac T (10 * uu)) (t1 : 1 / 10000000000 ≤ T) (t2 : T ≤ 10000000000) :
    Fin (fdiv one1 ac) ∧ Fin (fsub (fmul (fdiv one1 ac) ac) one1) ∧ Wn (vl (fsub (fmul (fdiv one1 ac) ac) one1)) (1 / 100000000000000) := by
  have u1 : uu = 1 / 9007199254740992 := uu_eq
  have H := Rl.exact h2.fx (h2.pos (by rw [u1]; grind))
  have H1 := Rl.exact v_one.1 (by rw [v_one.2]; grind)
  rw [v_one.2] at H1
  have lo := h2.lo (by rw [u1]; grind)
  have hi := h2.hi (by rw [u1]; grind)
  generalize vl ac = v at *
  have v0 : 0 < v := H.v0
  have e : 1 / v * v = 1 := by grind
  have q1 : 1 / 20000000000 ≤ 1 / v := by
    have : v * (1 / 20000000000) ≤ v * (1 / v) := by grind
    exact le_of_scaled v0 this
  have q2 : 1 / v ≤ 20000000000 := by
    have : v * (1 / v) ≤ v * 20000000000 := by grind
    exact le_of_scaled v0 this
  have HD := divR H1 H (by grind) (by grind) ⟨by grind, by grind⟩
  have HM := mulR HD H (by rw [u1]; grind) (by grind) (by rw [e]; exact ⟨by grind, by grind⟩)
  have HM' := HM.cast e
  refine ⟨HD.fx, ?_⟩
  have d : Wn (vl (fmul (fdiv one1 ac) ac) - 1) (6 * uu) := HM'.err.mono (by rw [u1]; grind)
  obtain ⟨f1, e1⟩ := subE HM.fx v_one.1 (6 * uu) (by rw [v_one.2]; exact d) (by rw [u1]; grind)
  rw [v_one.2] at e1
  exact ⟨f1, (wn_add e1 d).of (by grind) (by rw [u1]; grind)⟩
end Go.Fp.Tri

/- Float operations keep the order. -/
namespace Go.Fp.Tri
open Go.Fp Ieee
set_option maxRecDepth 20000

theorem near_neg (M : Nat) (base : Int) (hb : M = 0 ∨ base + (M.log2 : Int) ≤ 1022) : vl (D.nearest true M base) = - vl (D.nearest false M base) := by
  rcases hb with rfl | hb
  · rw [near_zero, near_zero]; rfl
  · by_cases hM : M = 0
    · subst hM; rw [near_zero, near_zero]; rfl
    · rw [near_val M base hM hb]
      unfold Format.nearest
      rw [if_neg hM]
      simp only [D_least, D_frac, D_bin]
      generalize hlast : max (base + (M.log2 : Int) - 52) (-1074) = last
      have h2 : -1074 ≤ last := by omega
      have h3 : last = -1074 ∨ last = base + (M.log2 : Int) - 52 := by omega
      obtain ⟨a, ha⟩ : ∃ a, a = (base - last).toNat := ⟨_, rfl⟩
      obtain ⟨k, hk⟩ : ∃ k, k = (last - base).toNat := ⟨_, rfl⟩
      rw [← ha, ← hk]
      have hl := log2_shift_le M a hM
      have hlt := lt_log2 (M <<< a)
      have hne : M <<< a ≠ 0 := by rw [Nat.shiftLeft_eq]; exact Nat.mul_ne_zero hM (by have := Nat.two_pow_pos a; omega)
      have hc53 : Toward.even.cut true (M <<< a) k ≤ 2 ^ 53 := cut_le true _ _ _ (Nat.lt_of_lt_of_le hlt (Nat.pow_le_pow_right (by decide) (by rw [hl]; omega)))
      have hc52 : (last - -1074).toNat = 0 ∨ 2 ^ 52 ≤ Toward.even.cut true (M <<< a) k := by
        rcases h3 with h3 | h3
        · left; omega
        · right
          refine cut_ge' true _ _ _ ?_
          rw [← Nat.le_log2 hne, hl]; omega
      have hc : Toward.even.cut true (M <<< a) k = Toward.even.cut false (M <<< a) k := by rw [cut_even, cut_even]
      rw [hc] at hc53 hc52
      rw [hc]
      generalize Toward.even.cut false (M <<< a) k = kept at *
      obtain ⟨m, p, hr, hp1, hp2⟩ := read_kept true (last - -1074).toNat kept hc53 hc52 (by omega)
      rw [vl_of hr, vd_sign, if_pos rfl]
      have hv : vd false m p = vd false kept last := by
        refine vd_shift false hp1 h2 ?_
        rw [hp2]
        congr 1
      rw [hv, vd_false]
/-- two roundings, of whatever form -/
theorem pos_mono {M N : Nat} {b c : Int} (h : (M : Rat) * pw b ≤ (N : Rat) * pw c) (hN : (N : Rat) * pw c ≤ pw 1022) : vl (D.nearest false M b) ≤ vl (D.nearest false N c) := by
  by_cases hM0 : M = 0
  · subst hM0
    rw [near_zero]
    exact near_pos N c (vd_bound (by rw [vd_false]; exact hN))
  by_cases hN0 : N = 0
  · exfalso
    subst hN0
    have h1 := cast_pos hM0
    have := Rat.mul_pos h1 (pw_pos b)
    simp at h
    grind
  obtain ⟨d, hd⟩ : ∃ d, d = min b c := ⟨_, rfl⟩
  obtain ⟨i, hi⟩ : ∃ i : Nat, (i : Int) = b - d := ⟨(b - d).toNat, by omega⟩
  obtain ⟨j, hj⟩ : ∃ j : Nat, (j : Int) = c - d := ⟨(c - d).toNat, by omega⟩
  have e1 : D.nearest false M b = D.nearest false (M <<< i) d := by rw [nearest_shift false M i d hM0]; congr 1; omega
  have e2 : D.nearest false N c = D.nearest false (N <<< j) d := by rw [nearest_shift false N j d hN0]; congr 1; omega
  have v1 : ((M <<< i : Nat) : Rat) * pw d = (M : Rat) * pw b := by
    rw [Nat.shiftLeft_eq, Rat.natCast_mul, ← pw_nat, show b = (i : Int) + d by omega, pw_add]
    generalize pw d = x
    generalize pw (i : Int) = y
    grind
  have v2 : ((N <<< j : Nat) : Rat) * pw d = (N : Rat) * pw c := by
    rw [Nat.shiftLeft_eq, Rat.natCast_mul, ← pw_nat, show c = (j : Int) + d by omega, pw_add]
    generalize pw d = x
    generalize pw (j : Int) = y
    grind
  rw [e1, e2]
  rw [← v1, ← v2] at h
  rw [← v2] at hN
  have hp := pw_pos d
  have hle : M <<< i ≤ N <<< j := by
    have : pw d * ((M <<< i : Nat) : Rat) ≤ pw d * ((N <<< j : Nat) : Rat) := by rw [Rat.mul_comm, Rat.mul_comm (pw d)]; exact h
    exact Rat.natCast_le_natCast.1 (le_of_scaled hp this)
  exact near_mono d hle (vd_bound (by rw [vd_false]; exact hN))
theorem rnd_mono {s t : Bool} {M N : Nat} {b c : Int} (h : vd s M b ≤ vd t N c) (hM : vd false M b ≤ pw 1022) (hN : vd false N c ≤ pw 1022) : vl (D.nearest s M b) ≤ vl (D.nearest t N c) := by
  have bM := vd_bound hM
  have bN := vd_bound hN
  have pM := near_pos M b bM
  have pN := near_pos N c bN
  rw [vd_sign s, vd_sign t] at h
  rw [vd_false] at *
  have qM : 0 ≤ (M : Rat) * pw b := Rat.mul_nonneg (natle M) (Rat.le_of_lt (pw_pos b))
  have qN : 0 ≤ (N : Rat) * pw c := Rat.mul_nonneg (natle N) (Rat.le_of_lt (pw_pos c))
  cases s <;> cases t
  · simp only [Bool.false_eq_true, if_false] at h
    rw [vd_false] at h
    exact pos_mono h hN
  · simp only [Bool.false_eq_true, if_false, if_true] at h
    rw [vd_false] at h
    rw [near_neg N c bN]
    have z1 : (M : Rat) * pw b = 0 := by grind
    have z2 : (N : Rat) * pw c = 0 := by grind
    have m0 : M = 0 := by
      by_cases hh : M = 0
      · exact hh
      · have := Rat.mul_pos (cast_pos hh) (pw_pos b); grind
    have n0 : N = 0 := by
      by_cases hh : N = 0
      · exact hh
      · have := Rat.mul_pos (cast_pos hh) (pw_pos c); grind
    subst m0 n0
    rw [near_zero, near_zero]
    grind
  · rw [near_neg M b bM]
    grind
  · simp only [if_true] at h
    rw [vd_false] at h
    rw [near_neg M b bM, near_neg N c bN]
    have := pos_mono (M := N) (N := M) (b := c) (c := b) (by grind) hM
    grind
/-- products, sums, differences -/
theorem fmul_mono {x y x' y' : Nat} (hx : Fin x) (hy : Fin y) (hx' : Fin x') (hy' : Fin y') {B : Rat} (hB : Wn (vl x * vl y) B) (hB' : Wn (vl x' * vl y') B) (hB2 : B ≤ pw 1022) (h : vl x * vl y ≤ vl x' * vl y') : vl (fmul x y) ≤ vl (fmul x' y') := by
  obtain ⟨s, m, i, hx⟩ := hx
  obtain ⟨t, n, j, hy⟩ := hy
  obtain ⟨s', m', i', hx'⟩ := hx'
  obtain ⟨t', n', j', hy'⟩ := hy'
  rw [vl_of hx, vl_of hy, vl_of hx', vl_of hy'] at *
  have e : ∀ {x y : Nat} {s t : Bool} {m n : Nat} {i j : Int}, D.read x = .number s m i → D.read y = .number t n j → fmul x y = D.nearest (s ^^ t) (m * n) (i + j) := by
    intro x y s t m n i j hx hy
    unfold fmul Format.mul
    rw [hx, hy]; rfl
  rw [e hx hy, e hx' hy']
  rw [← vd_mul, ← vd_mul] at h
  rw [← vd_mul] at hB hB'
  exact rnd_mono h (Rat.le_trans (abs_vd _ _ _ B hB) hB2) (Rat.le_trans (abs_vd _ _ _ B hB') hB2)
theorem fadd_form {x y : Nat} (hx : Fin x) (hy : Fin y) {B : Rat} (hB : Wn (vl x + vl y) B) : ∃ s M b, fadd x y = D.nearest s M b ∧ vd s M b = vl x + vl y ∧ vd false M b ≤ B := by
  obtain ⟨s, m, i, hx⟩ := hx
  obtain ⟨t, n, j, hy⟩ := hy
  rw [vl_of hx, vl_of hy] at *
  have e1 := signed_vd s m i (min i j) (by omega)
  have e2 := signed_vd t n j (min i j) (by omega)
  have ht := vd_total (signed s m (i - min i j).toNat + signed t n (j - min i j).toNat) (s && t) (min i j)
  have hs : vd s m i + vd t n j = ((signed s m (i - min i j).toNat + signed t n (j - min i j).toNat : Int) : Rat) * pw (min i j) := by
    rw [← e1, ← e2]
    push_cast
    grind
  rw [hs, ← ht] at hB
  rw [hs, ← ht]
  refine ⟨_, _, _, ?_, rfl, abs_vd _ _ _ B hB⟩
  unfold fadd Format.add
  rw [hx, hy]; rfl
theorem fadd_mono {x y x' y' : Nat} (hx : Fin x) (hy : Fin y) (hx' : Fin x') (hy' : Fin y') {B : Rat} (hB : Wn (vl x + vl y) B) (hB' : Wn (vl x' + vl y') B) (hB2 : B ≤ pw 1022) (h : vl x + vl y ≤ vl x' + vl y') : vl (fadd x y) ≤ vl (fadd x' y') := by
  obtain ⟨s, M, b, e1, e2, e3⟩ := fadd_form hx hy hB
  obtain ⟨t, N, c, g1, g2, g3⟩ := fadd_form hx' hy' hB'
  rw [e1, g1]
  exact rnd_mono (by rw [e2, g2]; exact h) (Rat.le_trans e3 hB2) (Rat.le_trans g3 hB2)
theorem fsub_add {x y : Nat} (hy : Fin y) : fsub x y = fadd x (Op.negFloat .f64 y) := by
  obtain ⟨t, n, j, hy⟩ := hy
  have h : D.read (Op.negFloat .f64 y) = (D.read y).opposite := by
    obtain ⟨h1, h2⟩ := neg_parts y
    have hb : ((Op.negFloat .f64 y) / 2 ^ 63 % 2 == 1) = !(y / 2 ^ 63 % 2 == 1) := by
      rw [h2]
      rcases Nat.mod_two_eq_zero_or_one (y / 2 ^ 63) with h | h <;> rw [h] <;> rfl
    unfold Format.read
    simp only [D_sign, D_inf, D_bin, D_least]
    rw [h1, hb]
    split
    · rfl
    · split
      · rfl
      · split <;> rfl
  unfold fsub fadd Format.sub Format.add
  rw [h]
theorem fsub_mono {x y x' y' : Nat} (hx : Fin x) (hy : Fin y) (hx' : Fin x') (hy' : Fin y') {B : Rat} (hB : Wn (vl x - vl y) B) (hB' : Wn (vl x' - vl y') B) (hB2 : B ≤ pw 1022) (h : vl x - vl y ≤ vl x' - vl y') : vl (fsub x y) ≤ vl (fsub x' y') := by
  obtain ⟨n1, n2⟩ := vl_neg y hy
  obtain ⟨n3, n4⟩ := vl_neg y' hy'
  rw [fsub_add hy, fsub_add hy']
  exact fadd_mono hx n1 hx' n3 (by rw [n2]; exact hB.of (by grind) Rat.le_refl) (by rw [n4]; exact hB'.of (by grind) Rat.le_refl) hB2 (by rw [n2, n4]; grind)
end Go.Fp.Tri

/- Quotients keep the order. -/
namespace Go.Fp.Tri
open Go.Fp Ieee
set_option maxRecDepth 20000

/-- half to even of a quotient's digits, against the quotient -/
theorem half_quot {N n h Q : Nat} (hn : n ≠ 0) (hh : 0 < h) (hQ : Q = 2 * (N / n) + (N % n != 0).toNat) :
    (Q / (4 * h) + (if 4 * h < 2 * (Q % (4 * h)) ∨ 4 * h = 2 * (Q % (4 * h)) ∧ Q / (4 * h) % 2 = 1 then 1 else 0)) * (4 * h) * n ≤ 2 * N + 2 * h * n ∧
    2 * N ≤ (Q / (4 * h) + (if 4 * h < 2 * (Q % (4 * h)) ∨ 4 * h = 2 * (Q % (4 * h)) ∧ Q / (4 * h) % 2 = 1 then 1 else 0)) * (4 * h) * n + 2 * h * n := by
  obtain ⟨K, hK⟩ : ∃ K, K = (Q / (4 * h) + (if 4 * h < 2 * (Q % (4 * h)) ∨ 4 * h = 2 * (Q % (4 * h)) ∧ Q / (4 * h) % 2 = 1 then 1 else 0)) * (4 * h) := ⟨_, rfl⟩
  rw [← hK]
  have hd := Nat.div_add_mod Q (4 * h)
  have hm := Nat.mod_lt Q (show 0 < 4 * h by omega)
  have e1 := Nat.div_add_mod N n
  have e2 := Nat.mod_lt N (Nat.pos_of_ne_zero hn)
  have k1 : K ≤ Q + 2 * h ∧ Q ≤ K + 2 * h ∧ (Q % 2 = 1 → K + 1 ≤ Q + 2 * h ∧ Q + 1 ≤ K + 2 * h) := by
    have par : Q % 2 = Q % (4 * h) % 2 := by
      rw [Nat.mod_mod_of_dvd]
      exact ⟨2 * h, by omega⟩
    have ed : 4 * h * (Q / (4 * h)) = Q / (4 * h) * (4 * h) := Nat.mul_comm _ _
    rw [ed] at hd
    generalize Q % (4 * h) = r at *
    rw [hK, Nat.add_mul]
    generalize Q / (4 * h) * (4 * h) = w at *
    split
    · rename_i hc
      have : 4 * h ≤ 2 * r := by rcases hc with hc | ⟨hc, _⟩ <;> omega
      rw [Nat.one_mul]
      refine ⟨by omega, by omega, fun hp => ⟨by omega, by omega⟩⟩
    · rename_i hc
      have : 2 * r ≤ 4 * h := by omega
      rw [Nat.zero_mul]
      refine ⟨by omega, by omega, fun hp => ⟨by omega, by omega⟩⟩
  obtain ⟨k1, k2, k3⟩ := k1
  clear hK hd hm
  by_cases hr : N % n = 0
  · have hq : Q = 2 * (N / n) := by rw [hQ, hr]; simp
    have hqn : Q * n = 2 * N := by
      rw [hq]
      have : n * (N / n) = N := by omega
      rw [Nat.mul_assoc, Nat.mul_comm (N / n) n, this]
    have t1 := Nat.mul_le_mul_right n k1
    have t2 := Nat.mul_le_mul_right n k2
    rw [Nat.add_mul] at t1 t2
    omega
  · have hq : Q = 2 * (N / n) + 1 := by
      rw [hQ]
      have : (N % n != 0).toNat = 1 := by simp [hr]
      rw [this]
    obtain ⟨k4, k5⟩ := k3 (by omega)
    have t1 := Nat.mul_le_mul_right n k4
    have t2 := Nat.mul_le_mul_right n k5
    have hqn : Q * n = 2 * (n * (N / n)) + n := by
      rw [hq, Nat.add_mul, Nat.one_mul, Nat.mul_assoc, Nat.mul_comm (N / n) n]
    rw [Nat.add_mul, Nat.add_mul, Nat.one_mul] at t1 t2
    generalize n * (N / n) = f at *
    generalize Q * n = qn at *
    generalize K * n = kn at *
    generalize 2 * h * n = hn' at *
    omega
theorem gap_eq {K H N n p R : Rat} (hp : 0 < p) (hn : 0 < n) (q1 : K * (4 * H) * n ≤ 2 * N + 2 * H * n) (q2 : 2 * N ≤ K * (4 * H) * n + 2 * H * n) (hR : R * n = 2 * N * p) : Wn (K * (p * (4 * H)) - R) (p * (4 * H) / 2) := by
  refine wn_scaled hn ?_
  have e1 : n * (K * (p * (4 * H)) - R) = p * (K * (4 * H) * n - 2 * N) := by
    have : n * (K * (p * (4 * H)) - R) = p * (K * (4 * H) * n) - R * n := by grind
    rw [this, hR]; grind
  have e2 : n * (p * (4 * H) / 2) = p * (2 * H * n) := by grind
  rw [e1, e2]
  have s1 := Rat.mul_le_mul_of_nonneg_left (show K * (4 * H) * n - 2 * N ≤ 2 * H * n by clear e1 e2 hR; grind) (Rat.le_of_lt hp)
  have s2 := Rat.mul_le_mul_of_nonneg_left (show -(2 * H * n) ≤ K * (4 * H) * n - 2 * N by clear e1 e2 hR; grind) (Rat.le_of_lt hp)
  refine ⟨?_, s1⟩
  have e3 : p * -(2 * H * n) = -(p * (2 * H * n)) := by grind
  rw [← e3]; exact s2
theorem bin_lo {z N n p R : Rat} (hp : 0 < p) (hn : 0 < n) (t : z * n ≤ 2 * N) (hR : R * n = 2 * N * p) : p * z ≤ R := by
  have t3 := Rat.mul_le_mul_of_nonneg_left t (Rat.le_of_lt hp)
  refine le_of_scaled hn ?_
  have e1 : n * (p * z) = p * (z * n) := by grind
  have e2 : n * R = p * (2 * N) := by rw [Rat.mul_comm, hR]; grind
  rw [e1, e2]; exact t3
theorem bin_hi {z N n p R : Rat} (hp : 0 < p) (hn : 0 < n) (t : 2 * N < z * n) (hR : R * n = 2 * N * p) : R < p * z := by
  have t3 := Rat.mul_lt_mul_of_pos_left t hp
  have e1 : p * z * n = p * (z * n) := by grind
  have e2 : R * n = p * (2 * N) := by rw [hR]; grind
  exact Rat.lt_of_mul_lt_mul_right (by rw [e1, e2]; exact t3) (Rat.le_of_lt hn)
theorem quot_eq {R n m a b D : Rat} (hb : 0 < b) (h1 : R * (n * b) = m * (a * b * (2 * D))) : R * n = 2 * (m * D) * a := by
  have e : b * (R * n) = b * (2 * (m * D) * a) := by grind
  exact Rat.le_antisymm (le_of_scaled hb (by rw [e]; exact Rat.le_refl)) (le_of_scaled hb (by rw [e]; exact Rat.le_refl))
end Go.Fp.Tri

/- Quotients keep the order, further. -/
namespace Go.Fp.Tri
open Go.Fp Ieee
set_option maxRecDepth 20000

theorem div_mul_c {a b R : Rat} (h : b ≠ 0) (hR : R = a / b) : R * b = a := by rw [hR]; grind
theorem ne_of_pos {a : Rat} (h : 0 < a) : a ≠ 0 := by grind
set_option maxHeartbeats 2000000 in
/-- a quotient of two numbers that lose no digits: so many last places, half a place off -/
theorem fdiv_gap {x y m n : Nat} {i j : Int} (hx : D.read x = .number false m i) (hy : D.read y = .number false n j) (hm : 2 ^ 52 ≤ m) (hn : 2 ^ 52 ≤ n) (hi : -300 ≤ i) (hi2 : i ≤ 300) (hj : -300 ≤ j) (hj2 : j ≤ 300) :
    ∃ (kept : Nat) (l : Int), vl (fdiv x y) = (kept : Rat) * pw l ∧ 2 ^ 52 ≤ kept ∧ kept ≤ 2 ^ 53 ∧ Wn (vl (fdiv x y) - vl x / vl y) (pw l / 2) ∧ pw (l + 52) ≤ vl x / vl y ∧ vl x / vl y < pw (l + 53) := by
  have hm2 := (read_fields hx).1
  have hn2 := (read_fields hy).1
  have lm : m.log2 = 52 := by
    have h1 : 52 ≤ m.log2 := (Nat.le_log2 (by omega)).2 hm
    have h2 : m.log2 ≤ 52 := log2_of (by omega) hm2
    omega
  have ln : n.log2 = 52 := by
    have h1 : 52 ≤ n.log2 := (Nat.le_log2 (by omega)).2 hn
    have h2 : n.log2 ≤ 52 := log2_of (by omega) hn2
    omega
  have hn0 : n ≠ 0 := by omega
  have hdr := div_read hx hy hn0
  rw [lm, ln, show 54 + 52 - 52 = 54 from rfl] at hdr
  rw [hdr]
  have hxor : (false ^^ false) = false := rfl
  rw [hxor]
  obtain ⟨N, hN⟩ : ∃ N, N = m <<< 54 := ⟨_, rfl⟩
  rw [← hN]
  obtain ⟨Q, hQ⟩ : ∃ Q, Q = 2 * (N / n) + (N % n != 0).toNat := ⟨_, rfl⟩
  rw [← hQ]
  obtain ⟨e, he⟩ : ∃ e : Int, e = i - j - ((54 : Nat) : Int) - 1 := ⟨_, rfl⟩
  rw [← he]
  -- the digits
  have hNm : N = m * 18014398509481984 := by rw [hN, Nat.shiftLeft_eq]
  have hst : (N % n != 0).toNat ≤ 1 := by cases (N % n != 0) <;> decide
  have hf1 : 9007199254740992 ≤ N / n := by
    rw [Nat.le_div_iff_mul_le (by omega)]
    have : 9007199254740992 * n ≤ 9007199254740992 * 9007199254740992 := Nat.mul_le_mul_left _ (by omega)
    have : 4503599627370496 * 18014398509481984 ≤ m * 18014398509481984 := Nat.mul_le_mul_right _ hm
    omega
  have hQ0 : Q ≠ 0 := by omega
  obtain ⟨L, hL⟩ : ∃ L, L = Q.log2 := ⟨_, rfl⟩
  have hL1 : 2 ^ L ≤ Q := by rw [hL]; exact Nat.log2_self_le hQ0
  have hL2 : Q < 2 ^ (L + 1) := by rw [hL]; exact Nat.lt_log2_self
  have hL54 : 54 ≤ L := by rw [hL]; exact (Nat.le_log2 hQ0).2 (by omega)
  have hLhi : L ≤ 110 := by
    rw [hL]
    refine log2_of hQ0 ?_
    have : N / n ≤ N := Nat.div_le_self _ _
    have : N < 9007199254740992 * 18014398509481984 := by rw [hNm]; exact Nat.mul_lt_mul_of_pos_right hm2 (by omega)
    have e111 : (2 : Nat) ^ (110 + 1) = 2596148429267413814265248164610048 := by decide
    rw [e111]
    omega
  obtain ⟨k, hk⟩ : ∃ k, L = 52 + k := ⟨L - 52, by omega⟩
  have hval := near_val Q e hQ0 (by rw [← hL]; omega)
  rw [← hL, show max (e + (L : Int) - 52) (-1074) = e + k by omega, show (e - (e + (k : Int))).toNat = 0 by omega, show (e + (k : Int) - e).toNat = k by omega, Nat.shiftLeft_zero] at hval
  rw [hval]
  obtain ⟨h, hh⟩ : ∃ h, 2 ^ k = 4 * h := ⟨2 ^ (k - 2), by have h2 := Nat.pow_add 2 2 (k - 2); rw [show 2 + (k - 2) = k by omega, show (2 : Nat) ^ 2 = 4 from rfl] at h2; exact h2⟩
  have hpk := Nat.two_pow_pos k
  have hq := half_quot (N := N) (n := n) (h := h) (Q := Q) hn0 (by omega) hQ
  rw [← hh] at hq
  rw [← cut_even false Q k] at hq
  have c1 : 2 ^ 52 ≤ Toward.even.cut false Q k := cut_ge' false Q k 52 (by rw [← hk]; exact hL1)
  have c2 : Toward.even.cut false Q k ≤ 2 ^ 53 := cut_le false Q k 53 (by rw [show 53 + k = L + 1 by omega]; exact hL2)
  generalize Toward.even.cut false Q k = kept at *
  refine ⟨kept, e + k, rfl, c1, c2, ?_⟩
  -- the quotient as a number
  have hnr : (0 : Rat) < (n : Rat) := cast_pos hn0
  obtain ⟨R, hR⟩ : ∃ R, R = vl x / vl y := ⟨_, rfl⟩
  rw [← hR]
  have hRn : R * (n : Rat) = 2 * (N : Rat) * pw e := by
    have hy0 : vl y ≠ 0 := by
      rw [vl_of hy, vd_false]
      exact ne_of_pos (Rat.mul_pos hnr (pw_pos j))
    have h1 : R * vl y = vl x := div_mul_c hy0 hR
    rw [vl_of hx, vl_of hy, vd_false, vd_false] at h1
    have hp : pw i = pw e * pw j * (2 * 18014398509481984) := by
      have h55 : pw 55 = 2 * 18014398509481984 := by
        have h1 := pw_nat 55
        have h2 : ((2 ^ 55 : Nat) : Rat) = 2 * 18014398509481984 := by decide +kernel
        rw [h2] at h1
        exact h1
      rw [← h55, ← pw_add, ← pw_add]; congr 1; omega
    have r18 : ((18014398509481984 : Nat) : Rat) = 18014398509481984 := by decide +kernel
    have hNr : (N : Rat) = (m : Rat) * 18014398509481984 := by rw [hNm, Rat.natCast_mul, r18]
    rw [hp] at h1
    rw [hNr]
    exact quot_eq (pw_pos j) h1
  have hpe := pw_pos e
  have ek : pw (e + k) = pw e * ((2 ^ k : Nat) : Rat) := by rw [pw_add, pw_nat]
  have bin : pw (e + k + 52) = pw e * ((2 ^ L : Nat) : Rat) ∧ pw (e + k + 53) = pw e * ((2 ^ (L + 1) : Nat) : Rat) := by
    constructor
    · rw [← pw_nat, ← pw_add]; congr 1; omega
    · rw [← pw_nat, ← pw_add]; congr 1; omega
  have ed := Nat.div_add_mod N n
  have em := Nat.mod_lt N (Nat.pos_of_ne_zero hn0)
  refine ⟨?_, ?_, ?_⟩
  · obtain ⟨q1, q2⟩ := hq
    have q1' := natcle q1
    have q2' := natcle q2
    rw [ek, hh]
    rw [hh] at q1' q2'
    simp only [Rat.natCast_mul, Rat.natCast_add] at q1' q2' ⊢
    have r2 : ((2 : Nat) : Rat) = 2 := rfl
    have r4 : ((4 : Nat) : Rat) = 4 := rfl
    rw [r2, r4] at q1' q2'
    rw [r4]
    exact gap_eq hpe hnr q1' q2' hRn
  · rw [bin.1]
    have : 2 ^ L * n ≤ 2 * N := by
      have hev : 2 ^ L ≤ 2 * (N / n) := by
        have : 2 ^ L % 2 = 0 := by rw [show L = (L - 1) + 1 by omega, Nat.pow_succ]; omega
        omega
      have t := Nat.mul_le_mul_right n hev
      have t2 : 2 * (N / n) * n = 2 * (n * (N / n)) := by rw [Nat.mul_assoc, Nat.mul_comm (N / n) n]
      omega
    have t := natcle this
    rw [Rat.natCast_mul, Rat.natCast_mul] at t
    have r2 : ((2 : Nat) : Rat) = 2 := rfl
    rw [r2] at t
    exact bin_lo hpe hnr t hRn
  · rw [bin.2]
    have hlt : 2 * N < 2 ^ (L + 1) * n := by
      have hev : 2 * (N / n) + 2 ≤ 2 ^ (L + 1) := by
        have : 2 ^ (L + 1) % 2 = 0 := by rw [Nat.pow_succ]; omega
        omega
      have t := Nat.mul_le_mul_right n hev
      have t2 : (2 * (N / n) + 2) * n = 2 * (n * (N / n)) + 2 * n := by rw [Nat.add_mul, Nat.mul_assoc, Nat.mul_comm (N / n) n]
      omega
    have t : ((2 * N : Nat) : Rat) < ((2 ^ (L + 1) * n : Nat) : Rat) := Rat.natCast_lt_natCast.2 hlt
    rw [Rat.natCast_mul, Rat.natCast_mul] at t
    have r2 : ((2 : Nat) : Rat) = 2 := rfl
    rw [r2] at t
    exact bin_hi hpe hnr t hRn
end Go.Fp.Tri

/- What is above by what is below keeps the order. -/
namespace Go.Fp.Tri
open Go.Fp Ieee
set_option maxRecDepth 20000

theorem rat_lt_or_eq {a b : Rat} (h : a ≤ b) : a < b ∨ a = b := by
  by_cases he : a = b
  · exact .inr he
  · left; grind
theorem rat_lt_le {a b c : Rat} (h : a < b) (k : b ≤ c) : a < c := by grind
theorem rat_le_lt {a b c : Rat} (h : a ≤ b) (k : b < c) : a < c := by grind
theorem rat_lt_lt {a b c : Rat} (h : a < b) (k : b < c) : a < c := by grind
theorem gap_le {K1 K2 : Nat} {l1 l2 : Int} {R1 R2 : Rat} (h : R1 < R2) (a2 : K1 ≤ 2 ^ 53) (b1 : 2 ^ 52 ≤ K2) (w1 : Wn ((K1 : Rat) * pw l1 - R1) (pw l1 / 2)) (w2 : Wn ((K2 : Rat) * pw l2 - R2) (pw l2 / 2))
    (p1 : pw (l1 + 52) ≤ R1) (p2 : R2 < pw (l2 + 53)) : (K1 : Rat) * pw l1 ≤ (K2 : Rat) * pw l2 := by
  rcases Int.lt_trichotomy l1 l2 with hl | hl | hl
  · have t1 : (K1 : Rat) * pw l1 ≤ ((2 ^ 53 : Nat) : Rat) * pw l1 := Rat.mul_le_mul_of_nonneg_right (natcle a2) (Rat.le_of_lt (pw_pos _))
    have t2 : ((2 ^ 52 : Nat) : Rat) * pw l2 ≤ (K2 : Rat) * pw l2 := Rat.mul_le_mul_of_nonneg_right (natcle b1) (Rat.le_of_lt (pw_pos _))
    have e1 : ((2 ^ 53 : Nat) : Rat) * pw l1 = pw (53 + l1) := by rw [pw_add, ← pw_nat]; rfl
    have e2 : ((2 ^ 52 : Nat) : Rat) * pw l2 = pw (52 + l2) := by rw [pw_add, ← pw_nat]; rfl
    rw [e1] at t1
    rw [e2] at t2
    exact Rat.le_trans t1 (Rat.le_trans (pw_mono (by omega)) t2)
  · subst hl
    have hp := pw_pos l1
    rcases Nat.lt_or_ge K2 K1 with hk | hk
    · exfalso
      have h1 : (K2 : Rat) + 1 ≤ (K1 : Rat) := by
        have := natcle (show K2 + 1 ≤ K1 by omega)
        rw [Rat.natCast_add] at this
        exact this
      have t := Rat.mul_le_mul_of_nonneg_right h1 (Rat.le_of_lt hp)
      have e : ((K2 : Rat) + 1) * pw l1 = (K2 : Rat) * pw l1 + pw l1 := by generalize pw l1 = z; grind
      rw [e] at t
      obtain ⟨_, q1⟩ := w1
      obtain ⟨q2, _⟩ := w2
      generalize (K1 : Rat) * pw l1 = A at *
      generalize (K2 : Rat) * pw l1 = B at *
      generalize pw l1 = z at *
      clear a2 b1 p1 p2 e h1 hk
      grind
    · exact Rat.mul_le_mul_of_nonneg_right (natcle hk) (Rat.le_of_lt hp)
  · exfalso
    have : pw (l2 + 53) ≤ pw (l1 + 52) := pw_mono (by omega)
    have := rat_lt_le p2 this
    have := rat_lt_le this p1
    have := rat_lt_lt h this
    exact absurd this (by intro hh; clear w1 w2 p1 p2 a2 b1; grind)
theorem norm_form {x : Nat} (fx : Fin x) (h1 : 1 / 2 ≤ vl x) (h2 : vl x ≤ 2) : ∃ m i, D.read x = .number false m i ∧ 2 ^ 52 ≤ m ∧ -60 ≤ i ∧ i ≤ -50 := by
  obtain ⟨s, m, i, hr⟩ := fx
  rw [vl_of hr] at h1 h2
  have hs : s = false := by
    cases s
    · rfl
    · exfalso
      rw [vd_sign, if_pos rfl] at h1
      have := vd_nonneg m i
      clear h2 hr
      grind
  subst hs
  rw [vd_false] at h1 h2
  have hm2 := (read_fields hr).1
  have hmr : (m : Rat) ≤ 9007199254740992 := by
    have := natcle (show m ≤ 9007199254740992 by omega)
    exact this
  rcases read_canon hr with ⟨c1, c2⟩ | ⟨c1, _, _⟩
  · exfalso
    subst c2
    have e : pw (-1074) ≤ pw (-60) := pw_mono (by decide)
    have e2 : pw (-60) * 1152921504606846976 = 1 := by
      have h := pw_add (-60) 60
      rw [show (-60 + 60 : Int) = 0 by decide, pw_zero] at h
      have h3 : pw 60 = 1152921504606846976 := by have := pw_nat 60; exact this
      rw [h3] at h
      exact h.symm
    have t := Rat.mul_le_mul_of_nonneg_right hmr (Rat.le_of_lt (pw_pos (-1074)))
    generalize pw (-1074) = z at *
    generalize pw (-60) = y at *
    generalize (m : Rat) * z = w at *
    clear c1 hr hm2 h2 hmr
    grind
  · refine ⟨m, i, hr, c1, ?_, ?_⟩
    · rcases Int.lt_or_le i (-60) with hi | hi
      · exfalso
        have e : pw i ≤ pw (-60) := pw_mono (by omega)
        have e2 : pw (-60) * 1152921504606846976 = 1 := by
          have h := pw_add (-60) 60
          rw [show (-60 + 60 : Int) = 0 by decide, pw_zero] at h
          have h3 : pw 60 = 1152921504606846976 := by have := pw_nat 60; exact this
          rw [h3] at h
          exact h.symm
        have t := Rat.mul_le_mul_of_nonneg_right hmr (Rat.le_of_lt (pw_pos i))
        generalize pw i = z at *
        generalize pw (-60) = y at *
        generalize (m : Rat) * z = w at *
        clear c1 hr hm2 h2 hmr
        grind
      · exact hi
    · rcases Int.lt_or_le (-50) i with hi | hi
      · exfalso
        have e : pw (-49) ≤ pw i := pw_mono (by omega)
        have e2 : pw (-49) * 562949953421312 = 1 := by
          have h := pw_add (-49) 49
          rw [show (-49 + 49 : Int) = 0 by decide, pw_zero] at h
          have h3 : pw 49 = 562949953421312 := by have := pw_nat 49; exact this
          rw [h3] at h
          exact h.symm
        have hml : (4503599627370496 : Rat) ≤ (m : Rat) := natcle (show 4503599627370496 ≤ m by omega)
        have t := Rat.mul_le_mul_of_nonneg_right hml (Rat.le_of_lt (pw_pos i))
        generalize pw i = z at *
        generalize pw (-49) = y at *
        generalize (m : Rat) * z = w at *
        clear c1 hr hm2 h1 hmr hml
        grind
      · exact hi
theorem same_read {m m' : Nat} {i i' : Int} (h : (m : Rat) * pw i = (m' : Rat) * pw i') (a1 : 2 ^ 52 ≤ m) (a2 : m < 2 ^ 53) (b1 : 2 ^ 52 ≤ m') (b2 : m' < 2 ^ 53) : m = m' ∧ i = i' := by
  have key : ∀ {p q : Nat} {a b : Int}, (p : Rat) * pw a = (q : Rat) * pw b → 2 ^ 52 ≤ q → p < 2 ^ 53 → a < b → False := by
    intro p q a b h hq hp hab
    have t1 : (p : Rat) * pw a < ((2 ^ 53 : Nat) : Rat) * pw a := Rat.mul_lt_mul_of_pos_right (Rat.natCast_lt_natCast.2 hp) (pw_pos a)
    have t2 : ((2 ^ 52 : Nat) : Rat) * pw b ≤ (q : Rat) * pw b := Rat.mul_le_mul_of_nonneg_right (natcle hq) (Rat.le_of_lt (pw_pos _))
    have e1 : ((2 ^ 53 : Nat) : Rat) * pw a = pw (53 + a) := by rw [pw_add, ← pw_nat]; rfl
    have e2 : ((2 ^ 52 : Nat) : Rat) * pw b = pw (52 + b) := by rw [pw_add, ← pw_nat]; rfl
    rw [e1, h] at t1
    rw [e2] at t2
    have t3 : pw (53 + a) ≤ pw (52 + b) := pw_mono (by omega)
    have := rat_lt_le (rat_le_lt t2 t1) t3
    clear h t1 t2 t3 e1 e2
    generalize pw (52 + b) = z at *
    grind
  rcases Int.lt_trichotomy i i' with hh | hh | hh
  · exact (key h b1 a2 hh).elim
  · subst hh
    have hp := pw_pos i
    have h1 : (m : Rat) = (m' : Rat) := by
      have e : pw i * (m : Rat) = pw i * (m' : Rat) := by rw [Rat.mul_comm, h, Rat.mul_comm]
      exact Rat.le_antisymm (le_of_scaled hp (by rw [e]; exact Rat.le_refl)) (le_of_scaled hp (by rw [e]; exact Rat.le_refl))
    exact ⟨Rat.natCast_inj.1 h1, rfl⟩
  · exact (key h.symm a1 b2 hh).elim
/-- quotients of numbers near one -/
theorem fdiv_mono {x y x' y' : Nat} (fx : Fin x) (fy : Fin y) (fx' : Fin x') (fy' : Fin y') (hx : 1 / 2 ≤ vl x ∧ vl x ≤ 2) (hy : 1 / 2 ≤ vl y ∧ vl y ≤ 2) (hx' : 1 / 2 ≤ vl x' ∧ vl x' ≤ 2) (hy' : 1 / 2 ≤ vl y' ∧ vl y' ≤ 2)
    (h1 : vl x ≤ vl x') (h2 : vl y' ≤ vl y) : vl (fdiv x y) ≤ vl (fdiv x' y') := by
  obtain ⟨m, i, rx, mx, i1, i2⟩ := norm_form fx hx.1 hx.2
  obtain ⟨n, j, ry, my, j1, j2⟩ := norm_form fy hy.1 hy.2
  obtain ⟨m', i', rx', mx', i1', i2'⟩ := norm_form fx' hx'.1 hx'.2
  obtain ⟨n', j', ry', my', j1', j2'⟩ := norm_form fy' hy'.1 hy'.2
  by_cases he : vl x = vl x' ∧ vl y = vl y'
  · have q1 := he.1
    have q2 := he.2
    rw [vl_of rx, vl_of rx', vd_false, vd_false] at q1
    rw [vl_of ry, vl_of ry', vd_false, vd_false] at q2
    obtain ⟨rfl, rfl⟩ := same_read q1 mx (read_fields rx).1 mx' (read_fields rx').1
    obtain ⟨rfl, rfl⟩ := same_read q2 my (read_fields ry).1 my' (read_fields ry').1
    have hn0 : n ≠ 0 := by omega
    rw [div_read rx ry hn0, div_read rx' ry' hn0]
    exact Rat.le_refl
  · obtain ⟨K1, l1, e1, a1, a2, w1, p1, p2⟩ := fdiv_gap rx ry mx my (by omega) (by omega) (by omega) (by omega)
    obtain ⟨K2, l2, e2, b1, b2, w2, p3, p4⟩ := fdiv_gap rx' ry' mx' my' (by omega) (by omega) (by omega) (by omega)
    have hlt : vl x / vl y < vl x' / vl y' := by
      have y0 : 0 < vl y := by have := hy.1; clear he w1 w2 p1 p2 p3 p4 h1 h2; grind
      have y0' : 0 < vl y' := by have := hy'.1; clear he w1 w2 p1 p2 p3 p4 h1 h2; grind
      have x0 : 0 < vl x := by have := hx.1; clear he w1 w2 p1 p2 p3 p4 h1 h2; grind
      have c1 : vl x / vl y * vl y = vl x := div_mul_c (ne_of_pos y0) rfl
      have c2 : vl x' / vl y' * vl y' = vl x' := div_mul_c (ne_of_pos y0') rfl
      clear w1 w2 p1 p2 p3 p4 e1 e2
      generalize vl x / vl y = R at *
      generalize vl x' / vl y' = R' at *
      have R0 : 0 < R := by
        have : vl y * 0 < vl y * R := by rw [Rat.mul_zero, Rat.mul_comm, c1]; exact x0
        exact Rat.lt_of_mul_lt_mul_left this (Rat.le_of_lt y0)
      rcases Rat.le_total (a := R') (b := R) with hh | hh
      · exfalso
        -- x' = R' y' <= R y' <= R y = x <= x'
        have t1 := Rat.mul_le_mul_of_nonneg_right hh (Rat.le_of_lt y0')
        have t2 := Rat.mul_le_mul_of_nonneg_left h2 (Rat.le_of_lt R0)
        rw [c2] at t1
        rw [c1] at t2
        have ex : vl x = vl x' := Rat.le_antisymm h1 (Rat.le_trans t1 t2)
        have ey : vl y = vl y' := by
          have t3 : R * vl y ≤ R * vl y' := by rw [c1, ex]; exact t1
          exact Rat.le_antisymm (le_of_scaled R0 t3) h2
        exact he ⟨ex, ey⟩
      · rcases rat_lt_or_eq hh with h' | h'
        · exact h'
        · exfalso
          subst h'
          have t2 := Rat.mul_le_mul_of_nonneg_left h2 (Rat.le_of_lt R0)
          rw [c1, c2] at t2
          have ex : vl x = vl x' := Rat.le_antisymm h1 t2
          have ey : vl y = vl y' := by
            have t3 : R * vl y ≤ R * vl y' := by rw [c1, ex, c2]; exact Rat.le_refl
            exact Rat.le_antisymm (le_of_scaled R0 t3) h2
          exact he ⟨ex, ey⟩
    rw [e1, e2]
    rw [e1] at w1
    rw [e2] at w2
    exact gap_le hlt a2 b1 w1 w2 p1 p4
end Go.Fp.Tri

/- The logarithm near one: its error beside what it is. -/
namespace Go.Fp.Tri
open Go.Fp Ieee
set_option maxRecDepth 20000

theorem one_parts {t : Nat} (ft : Fin t) (bt : Wn (vl t) (142 / 1000)) : (Fin (fadd one1 t) ∧ 1 / 2 ≤ vl (fadd one1 t) ∧ vl (fadd one1 t) ≤ 2) ∧ (Fin (fsub one1 t) ∧ 1 / 2 ≤ vl (fsub one1 t) ∧ vl (fsub one1 t) ≤ 2) := by
  have u1 : uu = 1 / 9007199254740992 := uu_eq
  obtain ⟨b1, b2⟩ := bt
  obtain ⟨f1, e1⟩ := addE v_one.1 ft 2 (by rw [v_one.2]; constructor <;> grind) (by grind)
  obtain ⟨f2, e2⟩ := subE v_one.1 ft 2 (by rw [v_one.2]; constructor <;> grind) (by grind)
  rw [v_one.2, u1] at e1 e2
  obtain ⟨_, _⟩ := e1
  obtain ⟨_, _⟩ := e2
  exact ⟨⟨f1, by grind, by grind⟩, ⟨f2, by grind, by grind⟩⟩
theorem ratW_mono {t t' : Nat} (ft : Fin t) (ft' : Fin t') (bt : Wn (vl t) (142 / 1000)) (bt' : Wn (vl t') (142 / 1000)) (h : vl t ≤ vl t') : vl (ratW t) ≤ vl (ratW t') := by
  obtain ⟨⟨f1, a1, a2⟩, ⟨f2, b1, b2⟩⟩ := one_parts ft bt
  obtain ⟨⟨f1', a1', a2'⟩, ⟨f2', b1', b2'⟩⟩ := one_parts ft' bt'
  refine fdiv_mono f1 f2 f1' f2' ⟨a1, a2⟩ ⟨b1, b2⟩ ⟨a1', a2'⟩ ⟨b1', b2'⟩ ?_ ?_
  · exact fadd_mono v_one.1 ft v_one.1 ft' (B := 2) (by rw [v_one.2]; obtain ⟨_, _⟩ := bt; constructor <;> grind) (by rw [v_one.2]; obtain ⟨_, _⟩ := bt'; constructor <;> grind) (big_le' (by grind)) (by grind)
  · exact fsub_mono v_one.1 ft' v_one.1 ft (B := 2) (by rw [v_one.2]; obtain ⟨_, _⟩ := bt'; constructor <;> grind) (by rw [v_one.2]; obtain ⟨_, _⟩ := bt; constructor <;> grind) (big_le' (by grind)) (by grind)
theorem rabs_nonneg (x : Rat) : 0 ≤ rabs x := (wn_rabs x).nonneg
theorem sm_bd {m : Rat} (h1 : 7 / 10 ≤ m) : Wn (sm m) (rabs (m - 1) * (6 / 10)) := by
  have hd := wn_rabs (m - 1)
  have h0 := rabs_nonneg (m - 1)
  have e : sm m * (m + 1) = m - 1 := by unfold sm; grind
  refine wn_quot (c := m + 1) (c0 := 17 / 10) (by grind) (by grind) ?_
  rw [e]
  exact hd.mono (by grind)
theorem zero_mul_low : fmul (can (floatOfInt .f64 0)) (can lnLow) = 0 := by decide +kernel
theorem zero_mul_high : fmul (can (floatOfInt .f64 0)) (can lnHigh) = 0 := by decide +kernel
theorem ln_one : lnQ one1 0 = 0 := by decide +kernel
theorem addR0 {x : Nat} (fx : Fin x) {B : Rat} (bx : Wn (vl x) B) (hB : B ≤ 1000) : (Fin (fadd x 0) ∧ Wn (vl (fadd x 0) - vl x) (uu * B + eta)) ∧ (Fin (fadd 0 x) ∧ Wn (vl (fadd 0 x) - vl x) (uu * B + eta)) := by
  obtain ⟨f1, e1⟩ := fadd_err fx v_0.1 B (by rw [v_0.2]; exact bx.of (by grind) Rat.le_refl) (big_le' (by grind))
  obtain ⟨f2, e2⟩ := fadd_err v_0.1 fx B (by rw [v_0.2]; exact bx.of (by grind) Rat.le_refl) (big_le' (by grind))
  rw [v_0.2] at e1 e2
  exact ⟨⟨f1, e1.of (by grind) Rat.le_refl⟩, ⟨f2, e2.of (by grind) Rat.le_refl⟩⟩
theorem near_one {M : Nat} (fM : Fin M) (h1 : 7 / 10 ≤ vl M) (h2 : vl M ≤ 14 / 10) : vl M = 1 ∨ 1 / 1152921504606846976 ≤ rabs (vl M - 1) := by
  obtain ⟨m, i, hr, hm, hi, hi2⟩ := norm_form fM (by grind) (by grind)
  rw [vl_of hr, vd_false]
  obtain ⟨c, hc⟩ : ∃ c : Nat, (c : Int) = -i := ⟨(-i).toNat, by omega⟩
  have hp : pw i * ((2 ^ c : Nat) : Rat) = 1 := by
    rw [← pw_nat, ← pw_add, show i + (c : Int) = 0 by omega, pw_zero]
  have hpl : 1 / 1152921504606846976 ≤ pw i := by
    have e : pw (-60) ≤ pw i := pw_mono hi
    have e2 : pw (-60) * 1152921504606846976 = 1 := by
      have h := pw_add (-60) 60
      rw [show (-60 + 60 : Int) = 0 by decide, pw_zero] at h
      have h3 : pw 60 = 1152921504606846976 := by have := pw_nat 60; exact this
      rw [h3] at h
      exact h.symm
    clear hr hm hp h1 h2
    generalize pw (-60) = z at *
    grind
  have hpp := pw_pos i
  by_cases he : m = 2 ^ c
  · left
    rw [he, Rat.mul_comm]; exact hp
  · right
    have e : (m : Rat) * pw i - 1 = pw i * ((m : Rat) - ((2 ^ c : Nat) : Rat)) := by
      rw [← hp]
      generalize pw i = z
      generalize ((2 ^ c : Nat) : Rat) = y
      grind
    rw [e]
    generalize 2 ^ c = N at *
    have hd : 1 ≤ (m : Rat) - (N : Rat) ∨ (m : Rat) - (N : Rat) ≤ -1 := by
      rcases Nat.lt_or_ge m N with h | h
      · right
        have := natcle (show m + 1 ≤ N by omega)
        rw [Rat.natCast_add] at this
        have e1 : ((1 : Nat) : Rat) = 1 := rfl
        rw [e1] at this
        clear e hp h1 h2
        grind
      · left
        have := natcle (show N + 1 ≤ m by omega)
        rw [Rat.natCast_add] at this
        have e1 : ((1 : Nat) : Rat) = 1 := rfl
        rw [e1] at this
        clear e hp h1 h2
        grind
    clear e hp h1 h2 hr hm
    generalize (m : Rat) - (N : Rat) = d at *
    generalize pw i = z at *
    unfold rabs
    rcases hd with hd | hd
    · have t := Rat.mul_le_mul_of_nonneg_left hd (Rat.le_of_lt hpp)
      split <;> grind
    · have t := Rat.mul_le_mul_of_nonneg_left hd (Rat.le_of_lt hpp)
      split <;> grind
set_option maxHeartbeats 1000000 in
/-- how far the logarithm of a number near one is off, beside the number's distance from one -/
theorem ln_rel {M : Nat} (fM : Fin M) (h1 : 72 / 100 ≤ vl M) (h2 : vl M ≤ 14 / 10) : Fin (lnQ M 0) ∧ Wn (vl (lnQ M 0) - AA (sm (vl M))) (40 * uu * rabs (vl M - 1)) := by
  have u1 : uu = 1 / 9007199254740992 := uu_eq
  have es := eta_small
  rcases near_one fM (by grind) h2 with hone | hfar
  · -- one itself
    obtain ⟨m, i, hr, hm, _, _⟩ := norm_form fM (by grind) (by grind)
    have hr1 : D.read one1 = .number false 4503599627370496 (-52) := by decide +kernel
    have q : (m : Rat) * pw i = ((4503599627370496 : Nat) : Rat) * pw (-52) := by
      have e1 := vl_of hr
      have e2 := vl_of hr1
      rw [vd_false] at e1 e2
      rw [← e1, ← e2, hone]
      exact v_one.2.symm
    obtain ⟨rfl, rfl⟩ := same_read q hm (read_fields hr).1 (by decide) (by decide)
    have e : lnQ M 0 = 0 := by rw [lnQ_read 0 (hr.trans hr1.symm), ln_one]
    rw [e, hone]
    refine ⟨v_0.1, ?_⟩
    have hs : sm 1 = 0 := by unfold sm; decide +kernel
    rw [v_0.2, hs, AA_zero]
    have := rabs_nonneg (1 - 1)
    have := uu_pos
    have h0 : 0 ≤ 40 * uu * rabs (1 - 1) := Rat.mul_nonneg (by grind) (by grind)
    constructor <;> grind
  · have hM : InM (vl M) := by unfold InM c0; constructor <;> grind
    have hs := sm_wn hM
    have hsd := sm_bd (m := vl M) (by grind)
    have hd := wn_rabs (vl M - 1)
    have d0 := rabs_nonneg (vl M - 1)
    have dhi : rabs (vl M - 1) ≤ 1 / 2 := by unfold rabs; split <;> grind
    have hsm : sm (vl M) * (vl M + 1) = vl M - 1 := by unfold sm; grind
    obtain ⟨f1, e1⟩ := fsub_err fM v_one.1 (rabs (vl M - 1)) (by rw [v_one.2]; exact hd) (big_le' (by grind))
    obtain ⟨f2, e2⟩ := addE fM v_one.1 (5 / 2) (by rw [v_one.2]; constructor <;> grind) (by grind)
    rw [v_one.2] at e1 e2
    have eM1 : vl M + 1 ≤ 5 / 2 := by grind
    have eM2 : 17 / 10 ≤ vl M + 1 := by grind
    unfold lnQ
    rw [v_one.1.can, zero_mul_low, zero_mul_high]
    have vtwo : Fin two ∧ vl two = 2 := v_two
    rw [vtwo.1.can, AA_Lp]
    generalize rabs (vl M - 1) = δ at *
    generalize fsub M one1 = a at *
    generalize fadd M one1 = b at *
    generalize sm (vl M) = s at *
    generalize vl M + 1 = q at *
    generalize vl M - 1 = r at *
    clear hM h1 h2
    have ea : Wn (vl a - r) (δ * (2 * uu)) := e1.mono (by rw [u1] at *; grind)
    have blo : 169 / 100 ≤ vl b := by have := e2.1; rw [u1] at this; grind
    have b0 : vl b ≠ 0 := ne_of_pos (by grind)
    obtain ⟨R, hR⟩ : ∃ R, R = vl a / vl b := ⟨_, rfl⟩
    have hRb := div_mul_c b0 hR
    have dR : Wn (R - s) (δ * (3 * uu)) := by
      refine wn_quot (c := vl b) (c0 := 169 / 100) (by grind) blo ?_
      have h := wn_sub ea (wn_mul hsd e2)
      refine h.of ?_ (by rw [u1]; grind)
      have e : (R - s) * vl b = vl a - s * vl b := by rw [← hRb]; grind
      rw [e, ← hsm]; grind
    have bR : Wn R (δ * (61 / 100)) := (wn_add dR hsd).of (by grind) (by rw [u1]; grind)
    obtain ⟨f3, e3⟩ := fdiv_err f1 f2 b0 _ (by rw [← hR]; exact bR) (big_le (by grind))
    rw [← hR] at e3
    have dS : Wn (vl (fdiv a b) - s) (δ * (5 * uu)) := (wn_add e3 dR).of (by grind) (by rw [u1] at *; grind)
    generalize fdiv a b = S at *
    clear e3 dR bR hRb hR ea e1 e2 hsm
    have bS : Wn (vl S) (δ * (62 / 100)) := (wn_add dS hsd).of (by grind) (by rw [u1]; grind)
    have bS2 : Wn (vl S) (173 / 1000) := (wn_add dS hs).of (by grind) (by rw [u1]; grind)
    obtain ⟨f4, e4⟩ := mulE f3 f3 _ (wn_mul bS2 bS2) (by grind)
    have dz := wn_mul dS (wn_add bS2 hs)
    have d4 : Wn (vl (fmul S S) - s * s) (4 * uu) := (wn_add e4 dz).of (by grind) (by rw [u1]; grind)
    have bss := wn_mul hs hs
    have bz : Wn (vl (fmul S S)) (3 / 100) := (wn_add d4 bss).of (by grind) (by rw [u1]; grind)
    obtain ⟨f5, e5⟩ := lnS_err f4 bz 11 (by omega)
    have lp := Lp_lip bz (bss.mono (by grind)) d4 11 (by omega)
    have lb := Lp_bd (z := s * s) (bss.mono (by grind)) 11 (by omega)
    generalize Lp (s * s) 11 = P at *
    generalize fmul S S = Z at *
    have d5 : Wn (vl (lnS Z 11) - P) (13 * uu) := (wn_add e5 lp).of (by grind) (by rw [u1]; grind)
    have b5 : Wn (vl (lnS Z 11)) (105 / 100) := (wn_add d5 lb).of (by grind) (by rw [u1]; grind)
    generalize lnS Z 11 = p at *
    clear e5 lp bz bss d4 dz e4
    have bSp := wn_mul bS b5
    obtain ⟨f6, e6⟩ := fmul_err f3 f5 _ bSp (big_le' (by grind))
    have d6 : Wn (vl (fmul S p) - s * P) (δ * (15 * uu)) := (wn_add e6 (wn_add (wn_mul bS d5) (wn_mul dS lb))).of (by grind) (by rw [u1] at *; grind)
    have bsP := wn_mul hsd lb
    have b6 : Wn (vl (fmul S p)) (δ * (63 / 100)) := (wn_add d6 bsP).of (by grind) (by rw [u1]; grind)
    generalize fmul S p = sp at *
    clear e6 bSp d5 b5
    obtain ⟨f7, e7⟩ := fmul_err vtwo.1 f6 (δ * (126 / 100)) (by rw [vtwo.2]; obtain ⟨_, _⟩ := b6; constructor <;> grind) (big_le' (by grind))
    rw [vtwo.2] at e7
    have d7 : Wn (vl (fmul two sp) - 2 * (s * P)) (δ * (32 * uu)) := (wn_add e7 (wn_add d6 d6)).of (by grind) (by rw [u1] at *; grind)
    have b7 : Wn (vl (fmul two sp)) (δ * (127 / 100)) := (wn_add d7 (wn_add bsP bsP)).of (by grind) (by rw [u1]; grind)
    generalize fmul two sp = t2 at *
    obtain ⟨⟨f8, e8⟩, _⟩ := addR0 f7 b7 (by grind)
    have b8 : Wn (vl (fadd t2 0)) (δ * (128 / 100)) := (wn_add e8 b7).of (by grind) (by rw [u1] at *; grind)
    obtain ⟨_, ⟨f9, e9⟩⟩ := addR0 f8 b8 (by grind)
    refine ⟨f9, ?_⟩
    exact (wn_add e9 (wn_add e8 d7)).of (by grind) (by rw [u1] at *; grind)
end Go.Fp.Tri

/- The part of the equal-area latitude that is a logarithm over twice the eccentricity: it does not fall. -/
namespace Go.Fp.Tri
open Go.Fp Ieee
set_option maxRecDepth 20000

theorem lnA_form {t : Nat} (ft : Fin t) (bt : Wn (vl t) (142 / 1000)) : ∃ M, lnP (ratW t) = lnQ M 0 ∧ Fin M ∧ vl M = vl (ratW t) ∧ 74 / 100 ≤ vl M ∧ vl M ≤ 134 / 100 ∧ rabs (vl M - 1) ≤ 24 / 10 * rabs (vl t) + 57 / 10 * uu := by
  have u1 : uu = 1 / 9007199254740992 := uu_eq
  obtain ⟨f1, y0, e1⟩ := ratW_near2 ft (bt.mono (by grind))
  obtain ⟨b1, b2⟩ := bt
  have hY : 74 / 100 ≤ vl (ratW t) ∧ vl (ratW t) ≤ 134 / 100 := by
    obtain ⟨g1, g2⟩ := e1
    have h0 : 0 < 1 - vl t := by grind
    constructor
    · have : (1 - vl t) * (74 / 100) ≤ (1 - vl t) * vl (ratW t) := by rw [u1] at *; grind
      exact le_of_scaled h0 this
    · have : (1 - vl t) * vl (ratW t) ≤ (1 - vl t) * (134 / 100) := by rw [u1] at *; grind
      exact le_of_scaled h0 this
  obtain ⟨M, k, eq, fM, l1, l2, v1⟩ := ln_form f1 y0
  have hk := pw0_of l1 l2 v1 (by grind) (by grind)
  subst hk
  rw [pw_zero, Rat.mul_one] at v1
  refine ⟨M, eq, fM, v1.symm, by rw [← v1]; exact hY.1, by rw [← v1]; exact hY.2, ?_⟩
  rw [← v1]
  have hr := wn_rabs (vl t)
  have hr0 := rabs_nonneg (vl t)
  have hd : Wn (vl (ratW t) - 1) (24 / 10 * rabs (vl t) + 57 / 10 * uu) := by
    refine wn_quot (c := 1 - vl t) (c0 := 858 / 1000) (by grind) (by grind) ?_
    have e : (vl (ratW t) - 1) * (1 - vl t) = (vl (ratW t) * (1 - vl t) - (1 + vl t)) + 2 * vl t := by grind
    rw [e]
    have h2 : Wn (2 * vl t) (2 * rabs (vl t)) := by obtain ⟨_, _⟩ := hr; constructor <;> grind
    exact (wn_add e1 h2).of rfl (by rw [u1]; grind)
  generalize 24 / 10 * rabs (vl t) + 57 / 10 * uu = E at *
  obtain ⟨_, _⟩ := hd
  unfold rabs
  split <;> grind
theorem AA_mono {x y : Rat} (hx : InM x) (hy : InM y) (h : x ≤ y) : AA (sm x) ≤ AA (sm y) := by
  have l := (ell_same hx hy h).1
  have y0 : 0 < y := by have := (inM_bd hy).1; grind
  have : y * 0 ≤ y * (AA (sm y) - AA (sm x)) := by
    rw [Rat.mul_zero]
    exact Rat.le_trans (by grind) l
  have := le_of_scaled y0 this
  grind
/-- the logarithm hardly falls, and how great it is -/
theorem lnA_mono {t t' : Nat} (ft : Fin t) (ft' : Fin t') (bt : Wn (vl t) (142 / 1000)) (bt' : Wn (vl t') (142 / 1000)) (h : vl t ≤ vl t') {T : Rat} (hT : rabs (vl t) ≤ T) (hT' : rabs (vl t') ≤ T) :
    Fin (lnP (ratW t)) ∧ Fin (lnP (ratW t')) ∧ Wn (vl (lnP (ratW t))) (3 * T + 72 / 10 * uu) ∧ Wn (vl (lnP (ratW t'))) (3 * T + 72 / 10 * uu) ∧ -(200 * uu * (T + 5 * uu)) ≤ vl (lnP (ratW t')) - vl (lnP (ratW t)) := by
  have u1 : uu = 1 / 9007199254740992 := uu_eq
  obtain ⟨M, e1, fM, v1, a1, a2, d1⟩ := lnA_form ft bt
  obtain ⟨M', e2, fM', v2, a1', a2', d2⟩ := lnA_form ft' bt'
  have hle : vl M ≤ vl M' := by rw [v1, v2]; exact ratW_mono ft ft' bt bt' h
  obtain ⟨g1, w1⟩ := ln_rel fM (by grind) (by grind)
  obtain ⟨g2, w2⟩ := ln_rel fM' (by grind) (by grind)
  have i1 : InM (vl M) := by unfold InM c0; constructor <;> grind
  have i2 : InM (vl M') := by unfold InM c0; constructor <;> grind
  have mono := AA_mono i1 i2 hle
  have sz : ∀ {m : Rat}, InM m → 7 / 10 ≤ m → Wn (AA (sm m)) (rabs (m - 1) * (124 / 100)) := by
    intro m hm hml
    have h1 := AA_lip (sm_wn hm) (show Wn (0 : Rat) (172 / 1000) from ⟨by grind, by grind⟩) (D := rabs (m - 1) * (6 / 10)) ((sm_bd hml).of (by grind) Rat.le_refl)
    rw [AA_zero] at h1
    exact h1.of (by grind) (by have := rabs_nonneg (m - 1); grind)
  have s1 := sz i1 (by grind)
  have s2 := sz i2 (by grind)
  have T0 : 0 ≤ T := Rat.le_trans (rabs_nonneg _) hT
  rw [e1, e2]
  have r1 := rabs_nonneg (vl M - 1)
  have r2 := rabs_nonneg (vl M' - 1)
  clear sz i1 i2 hle v1 v2
  generalize rabs (vl M - 1) = δ at *
  generalize rabs (vl M' - 1) = δ' at *
  generalize AA (sm (vl M)) = A at *
  generalize AA (sm (vl M')) = A' at *
  generalize vl (lnQ M 0) = L at *
  generalize vl (lnQ M' 0) = L' at *
  generalize rabs (vl t) = x at *
  generalize rabs (vl t') = x' at *
  have q1 : δ ≤ 24 / 10 * T + 57 / 10 * uu := by grind
  have q2 : δ' ≤ 24 / 10 * T + 57 / 10 * uu := by grind
  refine ⟨g1, g2, ?_, ?_, ?_⟩
  · exact (wn_add w1 s1).of (by grind) (by rw [u1] at *; grind)
  · exact (wn_add w2 s2).of (by grind) (by rw [u1] at *; grind)
  · obtain ⟨_, k1⟩ := w1
    obtain ⟨k2, _⟩ := w2
    rw [u1] at *
    grind
/-- tiny numbers beside one are lost -/
theorem ratW_tiny {t : Nat} (ft : Fin t) (bt : Wn (vl t) (1 / 18014398509481984)) : vl (ratW t) = 1 := by
  have v54 : Fin 4363988038922010624 ∧ vl 4363988038922010624 = 1 / 18014398509481984 := vl_const (s := false) (m := 4503599627370496) (k := 106) (by decide +kernel) (by decide +kernel)
  have n54 : Fin 13587360075776786432 ∧ vl 13587360075776786432 = -1 / 18014398509481984 := vl_const (s := true) (m := 4503599627370496) (k := 106) (by decide +kernel) (by decide +kernel)
  have k1 : ratW 4363988038922010624 = one1 := by decide +kernel
  have k2 : ratW 13587360075776786432 = one1 := by decide +kernel
  obtain ⟨b1, b2⟩ := bt
  have m1 := ratW_mono ft v54.1 ⟨by grind, by grind⟩ (by rw [v54.2]; constructor <;> grind) (by rw [v54.2]; exact b2)
  have m2 := ratW_mono n54.1 ft (by rw [n54.2]; constructor <;> grind) ⟨by grind, by grind⟩ (by rw [n54.2]; grind)
  rw [k1] at m1
  rw [k2] at m2
  rw [v_one.2] at m1 m2
  exact Rat.le_antisymm m1 m2
/-- over twice the eccentricity -/
def gW (e s : Nat) : Nat := fdiv (lnP (ratW (fmul e s))) (fmul wTwo e)
set_option maxHeartbeats 1000000 in
theorem gW_mono {e s s' : Nat} (h : EccOk e) (he : pw (-540) ≤ vl e) (fs : Fin s) (fs' : Fin s') (bs : Wn (vl s) (9999 / 10000)) (bs' : Wn (vl s') (9999 / 10000)) (hs : vl s ≤ vl s') :
    Fin (gW e s) ∧ Fin (gW e s') ∧ Wn (vl (gW e s)) (877 / 100) ∧ Wn (vl (gW e s')) (877 / 100) ∧ -(1 / 1000000000000) ≤ vl (gW e s') - vl (gW e s) := by
  have u1 : uu = 1 / 9007199254740992 := uu_eq
  have es := eta_small
  have he0 : eta ≤ uu * pw (-540) := by
    unfold eta uu
    rw [← pw_add]
    exact pw_mono (by decide)
  have hp540 := pw_pos (-540)
  obtain ⟨ft, et, bt⟩ := small_t h fs bs
  obtain ⟨ft', et', bt'⟩ := small_t h fs' bs'
  have e1 := h.e1
  have e0 : 0 < vl e := rat_lt_le hp540 he
  have eu : eta ≤ uu * vl e := Rat.le_trans he0 (Rat.mul_le_mul_of_nonneg_left he (Rat.le_of_lt uu_pos))
  have be : Wn (vl e) (vl e) := ⟨by grind, Rat.le_refl⟩
  -- sizes of the products
  have tb : ∀ {s : Nat}, Fin s → Wn (vl s) (9999 / 10000) → rabs (vl (fmul e s)) ≤ vl e := by
    intro s fs bs
    obtain ⟨_, q⟩ := fmul_err h.fe fs _ (wn_mul be bs) (big_le' (by grind))
    have b := (wn_add q (wn_mul be bs)).of (show _ = vl (fmul e s) by grind) (show _ ≤ vl e by rw [u1] at *; grind)
    obtain ⟨_, _⟩ := b
    unfold rabs
    split <;> grind
  have t1 := tb fs bs
  have t2 := tb fs' bs'
  have bB : Wn (vl e * vl s) 1 := (wn_mul be bs).mono (by grind)
  have bB' : Wn (vl e * vl s') 1 := (wn_mul be bs').mono (by grind)
  have hle := fmul_mono h.fe fs h.fe fs' bB bB' (big_le' (by grind)) (Rat.mul_le_mul_of_nonneg_left hs (Rat.le_of_lt e0))
  obtain ⟨g1, g2, l1, l2, l3⟩ := lnA_mono ft ft' bt bt' hle t1 t2
  -- the divisor
  have v2 : Fin wTwo ∧ vl wTwo = 2 := v_two
  obtain ⟨f2, d2⟩ := fmul_err v2.1 h.fe (2 * vl e) (by rw [v2.2]; constructor <;> grind) (big_le' (by grind))
  rw [v2.2] at d2
  have dlo : vl e * (1999 / 1000) ≤ vl (fmul wTwo e) := by have := d2.1; rw [u1] at *; grind
  have dhi : vl (fmul wTwo e) ≤ vl e * (21 / 10) := by have := d2.2; rw [u1] at *; grind
  have d0 : 0 < vl (fmul wTwo e) := by grind
  unfold gW
  generalize hD : fmul wTwo e = D at *
  clear tb bB bB' d2
  -- quotients
  have quo : ∀ {L : Nat} {R : Rat}, Fin L → Wn (vl L) (R * vl e) → R ≤ 175 / 10 → Fin (fdiv L D) ∧ Wn (vl (fdiv L D) - vl L / vl D) (1 / 10000000000000) ∧ Wn (vl (fdiv L D)) (877 / 100) := by
    intro L R fL bL hR
    have q : Wn (vl L / vl D) (876 / 100) := by
      refine wn_quot (c := vl D) (c0 := vl e * (1999 / 1000)) (by grind) dlo ?_
      rw [div_mul_c (ne_of_pos d0) rfl]
      have := Rat.mul_le_mul_of_nonneg_right hR (Rat.le_of_lt e0)
      exact bL.mono (by grind)
    obtain ⟨f, w⟩ := divE fL f2 (ne_of_pos d0) _ q (by grind)
    exact ⟨f, w.mono (by rw [u1]; grind), (wn_add w q).of (by grind) (by rw [u1]; grind)⟩
  rcases Rat.le_total (a := 1 / 18014398509481984) (b := vl e) with hbig | hsm
  · -- not tiny
    have l1' : Wn (vl (lnP (ratW (fmul e s)))) (175 / 10 * vl e) := l1.mono (by rw [u1]; grind)
    have l2' : Wn (vl (lnP (ratW (fmul e s')))) (175 / 10 * vl e) := l2.mono (by rw [u1]; grind)
    obtain ⟨q1, q2, q3⟩ := quo g1 l1' (by grind)
    obtain ⟨q4, q5, q6⟩ := quo g2 l2' (by grind)
    refine ⟨q1, q4, q3, q6, ?_⟩
    have l3' : -(4400 * uu * vl e) ≤ vl (lnP (ratW (fmul e s'))) - vl (lnP (ratW (fmul e s))) := by
      refine Rat.le_trans ?_ l3
      rw [u1]
      grind
    have hq : -(1 / 2000000000000) ≤ vl (lnP (ratW (fmul e s'))) / vl D - vl (lnP (ratW (fmul e s))) / vl D := by
      have c1 := div_mul_c (a := vl (lnP (ratW (fmul e s')))) (ne_of_pos d0) rfl
      have c2 := div_mul_c (a := vl (lnP (ratW (fmul e s)))) (ne_of_pos d0) rfl
      generalize vl (lnP (ratW (fmul e s'))) / vl D = x at *
      generalize vl (lnP (ratW (fmul e s))) / vl D = y at *
      have : vl D * -(1 / 2000000000000) ≤ vl D * (x - y) := by
        have e3 : vl D * (x - y) = x * vl D - y * vl D := by grind
        rw [e3, c1, c2]
        refine Rat.le_trans ?_ l3'
        rw [u1]
        grind
      exact le_of_scaled d0 this
    obtain ⟨_, _⟩ := q2
    obtain ⟨_, _⟩ := q5
    grind
  · -- tiny: both logarithms are none
    have none : ∀ {s : Nat}, Fin (fmul e s) → Wn (vl (fmul e s)) (142 / 1000) → rabs (vl (fmul e s)) ≤ vl e → vl (lnP (ratW (fmul e s))) = 0 := by
      intro s ft bt hb
      have hr := wn_rabs (vl (fmul e s))
      have y1 := ratW_tiny ft (hr.mono (by grind))
      obtain ⟨M, e1, fM, v1, a1, a2, _⟩ := lnA_form ft bt
      obtain ⟨_, w⟩ := ln_rel fM (by grind) (by grind)
      rw [y1] at v1
      rw [e1]
      rw [v1] at w
      have hs : sm 1 = 0 := by unfold sm; decide +kernel
      have hr1 : rabs (1 - 1) = 0 := by decide +kernel
      rw [hs, AA_zero, hr1, Rat.mul_zero] at w
      obtain ⟨_, _⟩ := w
      grind
    have z1 := none ft bt t1
    have z2 := none ft' bt' t2
    obtain ⟨q1, q2, q3⟩ := quo (R := 0) g1 (by rw [z1]; constructor <;> grind) (by grind)
    obtain ⟨q4, q5, q6⟩ := quo (R := 0) g2 (by rw [z2]; constructor <;> grind) (by grind)
    refine ⟨q1, q4, q3, q6, ?_⟩
    rw [z1] at q2
    rw [z2] at q5
    obtain ⟨_, _⟩ := q2
    obtain ⟨_, _⟩ := q5
    grind
end Go.Fp.Tri

/- Where areas stay, farther north is farther up; the latitude comes back. -/
namespace Go.Fp.Tri
open Go.Fp Ieee
set_option maxRecDepth 20000

def wW (E s : Nat) : Nat := fsub one1 (fmul (fmul E s) s)
def qW (E e s : Nat) : Nat := fmul (fsub one1 E) (fadd (fdiv s (wW E s)) (gW e s))
def upW (A q : Nat) : Nat := fdiv (fmul A q) wTwo
structure EOk (E : Nat) : Prop where
  fE : Fin E
  E0 : 0 ≤ vl E
  E1 : vl E ≤ 1 / 50
theorem wW_near {E s : Nat} (h : EOk E) (fs : Fin s) (bs : Wn (vl s) 1) : Fin (wW E s) ∧ Wn (vl (wW E s) - (1 - vl E * (vl s * vl s))) (6 * uu) ∧ 97 / 100 ≤ vl (wW E s) ∧ vl (wW E s) ≤ 1001 / 1000 := by
  have u1 : uu = 1 / 9007199254740992 := uu_eq
  have bE : Wn (vl E) (1 / 50) := ⟨by have := h.E0; grind, h.E1⟩
  obtain ⟨f1, e1⟩ := mulE h.fE fs _ (wn_mul bE bs) (by grind)
  have b1 : Wn (vl (fmul E s)) (3 / 100) := (wn_add e1 (wn_mul bE bs)).of (by grind) (by rw [u1]; grind)
  obtain ⟨f2, e2⟩ := mulE f1 fs _ (wn_mul b1 bs) (by grind)
  have d2 : Wn (vl (fmul (fmul E s) s) - vl E * (vl s * vl s)) (3 * uu) := (wn_add e2 (wn_mul e1 bs)).of (by grind) (by rw [u1]; grind)
  have ss0 : 0 ≤ vl s * vl s := by
    rcases Rat.le_total (a := 0) (b := vl s) with hh | hh
    · exact Rat.mul_nonneg hh hh
    · have := Rat.mul_nonneg (show 0 ≤ -vl s by grind) (show 0 ≤ -vl s by grind); grind
  have bss := wn_mul bs bs
  have Es := wn_mul bE bss
  have Es0 := Rat.mul_nonneg h.E0 ss0
  obtain ⟨f3, e3⟩ := subE v_one.1 f2 (103 / 100) (by rw [v_one.2]; obtain ⟨_, _⟩ := d2; obtain ⟨_, _⟩ := Es; rw [u1] at *; constructor <;> grind) (by grind)
  rw [v_one.2] at e3
  have d3 : Wn (vl (wW E s) - (1 - vl E * (vl s * vl s))) (6 * uu) := (wn_sub e3 d2).of (by unfold wW; grind) (by rw [u1]; grind)
  refine ⟨f3, d3, ?_, ?_⟩
  · have := d3.1
    have := Es.2
    rw [u1] at *
    grind
  · have := d3.2
    rw [u1] at *
    grind
theorem ratio_grow {s s' w w' E D u : Rat} (hE : 0 ≤ E) (hE1 : E ≤ 1 / 50) (bs : Wn s 1) (bs' : Wn s' 1) (hD : s' - s = D) (D0 : 0 ≤ D) (u0 : 0 ≤ u) (hw : Wn (w - (1 - E * (s * s))) u) (hw' : Wn (w' - (1 - E * (s' * s'))) u)
    (w0 : 97 / 100 ≤ w) (w1 : w ≤ 1001 / 1000) (w0' : 97 / 100 ≤ w') (w1' : w' ≤ 1001 / 1000) : 92 / 100 * D - 3 * u ≤ s' / w' - s / w := by
  have c1 : s' / w' * w' = s' := div_mul_c (ne_of_pos (by grind)) rfl
  have c2 : s / w * w = s := div_mul_c (ne_of_pos (by grind)) rfl
  generalize s' / w' = x at *
  generalize s / w = y at *
  have hww : 0 < w * w' := Rat.mul_pos (by grind) (by grind)
  have bss : Wn (s * (s + s')) 2 := (wn_mul bs (wn_add bs bs')).mono (by grind)
  have bE : Wn E (1 / 50) := ⟨by grind, hE1⟩
  have t := wn_mul (wn_mul bE bss) (show Wn D D from ⟨by grind, Rat.le_refl⟩)
  have d := wn_mul bs (wn_sub hw hw')
  have e : w * w' * (x - y) = D * w + (E * (s * (s + s')) * D + s * ((w - (1 - E * (s * s))) - (w' - (1 - E * (s' * s'))))) := by
    have h1 : w * w' * (x - y) = w * (x * w') - w' * (y * w) := by grind
    rw [h1, c1, c2, ← hD]
    grind
  have Dw := Rat.mul_le_mul_of_nonneg_left w0 D0
  have k : w * w' * (92 / 100 * D - 3 * u) ≤ w * w' * (x - y) := by
    rw [e]
    have h2 : w * w' ≤ 1003 / 1000 := by
      have := Rat.mul_le_mul_of_nonneg_left w1' (show 0 ≤ w by grind)
      grind
    have h3 : 94 / 100 ≤ w * w' := by
      have := Rat.mul_le_mul_of_nonneg_left w0' (show 0 ≤ w by grind)
      grind
    have h4 := Rat.mul_le_mul_of_nonneg_right h2 (show 0 ≤ 92 / 100 * D by grind)
    have h5 := Rat.mul_le_mul_of_nonneg_right h3 (show 0 ≤ 3 * u by grind)
    obtain ⟨_, _⟩ := t
    obtain ⟨_, _⟩ := d
    have e6 : w * w' * (92 / 100 * D - 3 * u) = w * w' * (92 / 100 * D) - w * w' * (3 * u) := by grind
    rw [e6]
    generalize w * w' * (92 / 100 * D) = p at *
    generalize w * w' * (3 * u) = q at *
    generalize E * (s * (s + s')) * D = a at *
    generalize s * ((w - (1 - E * (s * s))) - (w' - (1 - E * (s' * s')))) = b at *
    generalize D * w = c at *
    clear e e6 c1 c2 hw hw' bss h2 h3
    grind
  exact le_of_scaled hww k
set_option maxHeartbeats 1000000 in
theorem qW_grow {E e s s' : Nat} (h : EOk E) (h2 : EccOk e) (he : pw (-540) ≤ vl e) (fs : Fin s) (fs' : Fin s') (bs : Wn (vl s) (9999 / 10000)) (bs' : Wn (vl s') (9999 / 10000)) (hD : 33 / 1000000000000 ≤ vl s' - vl s) :
    Fin (qW E e s) ∧ Fin (qW E e s') ∧ Wn (vl (qW E e s)) (9805 / 1000) ∧ Wn (vl (qW E e s')) (9805 / 1000) ∧ 27 / 1000000000000 ≤ vl (qW E e s') - vl (qW E e s) := by
  have u1 : uu = 1 / 9007199254740992 := uu_eq
  obtain ⟨f1, n1, a1, a2⟩ := wW_near h fs (bs.mono (by grind))
  obtain ⟨f1', n1', a1', a2'⟩ := wW_near h fs' (bs'.mono (by grind))
  obtain ⟨g1, g2, g3, g4, g5⟩ := gW_mono h2 he fs fs' bs bs' (by grind)
  have rg := ratio_grow h.E0 h.E1 (bs.mono (show (9999 / 10000 : Rat) ≤ 1 by grind)) (bs'.mono (show (9999 / 10000 : Rat) ≤ 1 by grind)) rfl (by grind) (by rw [u1]; grind) n1 n1' a1 a2 a1' a2'
  have E0 := h.E0
  have E1 := h.E1
  obtain ⟨fo, eo⟩ := subE v_one.1 h.fE 1 (by rw [v_one.2]; constructor <;> grind) (by grind)
  rw [v_one.2] at eo
  unfold qW
  have S : ∀ {s w : Nat}, Fin s → Wn (vl s) (9999 / 10000) → Fin w → 97 / 100 ≤ vl w → Fin (fdiv s w) ∧ Wn (vl (fdiv s w) - vl s / vl w) (4 * uu) ∧ Wn (vl (fdiv s w)) (1032 / 1000) := by
    intro s w fs bs fw hw
    have q : Wn (vl s / vl w) (1031 / 1000) := by
      refine wn_quot (c := vl w) (c0 := 97 / 100) (by grind) hw ?_
      rw [div_mul_c (ne_of_pos (by grind)) rfl]
      exact bs.mono (by grind)
    obtain ⟨f, e⟩ := divE fs fw (ne_of_pos (by grind)) _ q (by grind)
    exact ⟨f, e.mono (by rw [u1]; grind), (wn_add e q).of (by grind) (by rw [u1]; grind)⟩
  obtain ⟨p1, p2, p3⟩ := S fs bs f1 a1
  obtain ⟨p1', p2', p3'⟩ := S fs' bs' f1' a1'
  generalize fdiv s (wW E s) = x at *
  generalize fdiv s' (wW E s') = x' at *
  generalize vl s / vl (wW E s) = r at *
  generalize vl s' / vl (wW E s') = r' at *
  generalize gW e s = g at *
  generalize gW e s' = g' at *
  generalize fsub one1 E = O at *
  have olo : 97 / 100 ≤ vl O := by have := eo.1; rw [u1] at this; grind
  have ohi : vl O ≤ 10001 / 10000 := by have := eo.2; rw [u1] at this; grind
  have bO : Wn (vl O) (10001 / 10000) := ⟨by grind, ohi⟩
  clear S n1 n1' eo
  obtain ⟨s1, t1⟩ := addE p1 g1 _ (wn_add p3 g3) (by grind)
  obtain ⟨s1', t1'⟩ := addE p1' g2 _ (wn_add p3' g4) (by grind)
  have b1 : Wn (vl (fadd x g)) (9803 / 1000) := (wn_add t1 (wn_add p3 g3)).of (by grind) (by rw [u1]; grind)
  have b1' : Wn (vl (fadd x' g')) (9803 / 1000) := (wn_add t1' (wn_add p3' g4)).of (by grind) (by rw [u1]; grind)
  have gr : 29 / 1000000000000 ≤ vl (fadd x' g') - vl (fadd x g) := by
    obtain ⟨_, _⟩ := t1
    obtain ⟨_, _⟩ := t1'
    obtain ⟨_, _⟩ := p2
    obtain ⟨_, _⟩ := p2'
    rw [u1] at *
    generalize vl s' - vl s = Dd at *
    clear bO b1 b1' p3 p3' g3 g4
    grind
  generalize fadd x g = y at *
  generalize fadd x' g' = y' at *
  obtain ⟨m1, k1⟩ := mulE fo s1 _ (wn_mul bO b1) (by grind)
  obtain ⟨m1', k1'⟩ := mulE fo s1' _ (wn_mul bO b1') (by grind)
  have tt := Rat.mul_le_mul_of_nonneg_left gr (show 0 ≤ vl O by grind)
  refine ⟨m1, m1', (wn_add k1 (wn_mul bO b1)).of (by grind) (by rw [u1]; grind), (wn_add k1' (wn_mul bO b1')).of (by grind) (by rw [u1]; grind), ?_⟩
  obtain ⟨_, _⟩ := k1
  obtain ⟨_, _⟩ := k1'
  have e : vl O * (vl y' - vl y) = vl O * vl y' - vl O * vl y := by grind
  rw [e] at tt
  generalize vl O * vl y' = a at *
  generalize vl O * vl y = b at *
  rw [u1] at *
  clear e b1 b1' bO
  grind
theorem upW_grow {A q q' : Nat} (fA : Fin A) (A1 : 1 / 10 ≤ vl A) (A2 : vl A ≤ 1000000000) (fq : Fin q) (fq' : Fin q') (bq : Wn (vl q) (9805 / 1000)) (bq' : Wn (vl q') (9805 / 1000)) (hD : 27 / 1000000000000 ≤ vl q' - vl q) :
    Fin (upW A q) ∧ Fin (upW A q') ∧ Wn (vl (upW A q)) (vl A * (4905 / 1000)) ∧ 0 < vl (upW A q') - vl (upW A q) := by
  have u1 : uu = 1 / 9007199254740992 := uu_eq
  have bA : Wn (vl A) (vl A) := ⟨by grind, Rat.le_refl⟩
  obtain ⟨f1, e1⟩ := mulE fA fq _ (wn_mul bA bq) (by grind)
  obtain ⟨f1', e1'⟩ := mulE fA fq' _ (wn_mul bA bq') (by grind)
  have b1 : Wn (vl (fmul A q)) (vl A * (9807 / 1000)) := (wn_add e1 (wn_mul bA bq)).of (by grind) (by rw [u1]; grind)
  have b1' : Wn (vl (fmul A q')) (vl A * (9807 / 1000)) := (wn_add e1' (wn_mul bA bq')).of (by grind) (by rw [u1]; grind)
  have tt := Rat.mul_le_mul_of_nonneg_left hD (show 0 ≤ vl A by grind)
  have e : vl A * (vl q' - vl q) = vl A * vl q' - vl A * vl q := by grind
  rw [e] at tt
  unfold upW
  generalize vl A * vl q' = x' at *
  generalize vl A * vl q = x at *
  generalize fmul A q = y at *
  generalize fmul A q' = y' at *
  obtain ⟨f2, e2⟩ := divE f1 v_two.1 (by rw [v_two.2]; grind) (vl A * (4904 / 1000)) (by rw [v_two.2]; obtain ⟨_, _⟩ := b1; constructor <;> grind) (by grind)
  obtain ⟨f2', e2'⟩ := divE f1' v_two.1 (by rw [v_two.2]; grind) (vl A * (4904 / 1000)) (by rw [v_two.2]; obtain ⟨_, _⟩ := b1'; constructor <;> grind) (by grind)
  rw [v_two.2] at e2 e2'
  obtain ⟨_, _⟩ := e1
  obtain ⟨_, _⟩ := e1'
  obtain ⟨_, _⟩ := e2
  obtain ⟨_, _⟩ := e2'
  obtain ⟨_, _⟩ := b1
  rw [u1] at *
  refine ⟨f2, f2', ⟨by grind, by grind⟩, by grind⟩
end Go.Fp.Tri

/- On Mercator's and the equal-area paper latitude and longitude come back, and farther north is farther up. -/
namespace Go.Fp.Tri
open Go.Fp Ieee
set_option maxRecDepth 20000

theorem C_85 : C (((-5000000000 : Int) : Rat) * rho) ≤ 99620 / 100000 := by decide +kernel
theorem sI_in85 {m : Int} (h0 : 0 ≤ m) (h1 : m ≤ 85000000000) : sI m ≤ 99620 / 100000 := by
  rcases Int.lt_or_le m 45000000000 with h | h
  · rw [sI_lo h0 h]
    have := (wn_S (arg_bd (r := m) (by omega) (by omega))).2
    grind
  · rw [sI_hi h]
    have r0 := rho_pos
    have a := castle (show m - 90000000000 ≤ -5000000000 by omega)
    have k := Rat.mul_le_mul_of_nonneg_right a (Rat.le_of_lt r0)
    have k2 : ((-5000000000 : Int) : Rat) * rho ≤ 0 := by unfold rho; decide +kernel
    have g := C_grow (arg_bd (r := m - 90000000000) (by omega) (by omega)) k k2
    have q : 0 ≤ (((-5000000000 : Int) : Rat) * rho - ((m - 90000000000 : Int) : Rat) * rho) * (-(((m - 90000000000 : Int) : Rat) * rho) - ((-5000000000 : Int) : Rat) * rho) := Rat.mul_nonneg (by grind) (by grind)
    have := C_85
    grind
theorem sin_in85 {m : Int} (h0 : -85000000000 ≤ m) (h1 : m ≤ 85000000000) : Fin (sinP m) ∧ Wn (vl (sinP m)) (9963 / 10000) := by
  obtain ⟨⟨f, e⟩, _⟩ := trig_lat (a := m) (by omega) (by omega)
  refine ⟨f, ?_⟩
  obtain ⟨e1, e2⟩ := e
  rcases Int.lt_or_le m 0 with h | h
  · have a := sI_in85 (m := -m) (by omega) (by omega)
    have b := sI_nonneg (m := -m) (by omega) (by omega)
    have o := (sI_odd (m := -m) (by omega) (by omega)).1
    rw [Int.neg_neg] at o
    obtain ⟨_, _⟩ := o
    constructor <;> grind
  · have a := sI_in85 h h1
    have b := sI_nonneg h (by omega)
    constructor <;> grind
theorem place_mid (M : Nat) (k : Int) (v : Rat) (h1 : c0 ≤ vl M) (h2 : vl M < 2 * c0) (h3 : v = vl M * pw k) (h4 : 1 / 700 ≤ v) (h5 : v ≤ 700) : -10 ≤ k ∧ k ≤ 10 := by
  have hp := pw_pos k
  have c1 : 7 / 10 ≤ c0 := by unfold c0; grind
  have c2 : c0 ≤ 8 / 10 := by unfold c0; grind
  constructor
  · rcases Int.lt_or_le k (-10) with hk | hk
    · exfalso
      have e : pw k ≤ pw (-11) := pw_mono (by omega)
      have e2 : pw (-11) * 2048 = 1 := by
        have h := pw_add (-11) 11
        rw [show (-11 + 11 : Int) = 0 by decide, pw_zero] at h
        have h3 : pw 11 = 2048 := by have := pw_nat 11; exact this
        rw [h3] at h
        exact h.symm
      have t := Rat.mul_le_mul_of_nonneg_right (show vl M ≤ 2 by grind) (Rat.le_of_lt hp)
      generalize pw (-11) = z at *
      generalize pw k = w at *
      clear h1 h2
      grind
    · exact hk
  · rcases Int.lt_or_le 10 k with hk | hk
    · exfalso
      have e : pw 11 ≤ pw k := pw_mono (by omega)
      have h3' : pw 11 = 2048 := by have := pw_nat 11; exact this
      rw [h3'] at e
      have t := Rat.mul_le_mul_of_nonneg_right (show 7 / 10 ≤ vl M by grind) (Rat.le_of_lt hp)
      generalize pw k = w at *
      clear h1 h2
      grind
    · exact hk
theorem lnP_mid {x : Nat} (fx : Fin x) (xlo : 1 / 700 ≤ vl x) (xhi : vl x ≤ 700) : Fin (lnP x) ∧ Wn (vl (lnP x)) (73 / 10) := by
  have x0 : 0 < vl x := by grind
  obtain ⟨M, k, e1, f1, l1, l2, v1⟩ := ln_form fx x0
  obtain ⟨ka, kb⟩ := place_mid M k _ l1 l2 v1 xlo xhi
  have i1 : InM (vl M) := ⟨l1, Rat.le_of_lt l2⟩
  obtain ⟨g1, g2⟩ := lnQ_err f1 i1 k (by omega) (by omega)
  rw [e1]
  refine ⟨g1, ?_⟩
  have bk : Wn ((k : Int) : Rat) 10 := ⟨castle (a := -10) ka, castle (b := 10) kb⟩
  have bl : Wn lam (694 / 1000) := by obtain ⟨a, b⟩ := lam_bd; constructor <;> grind
  exact (wn_add g2 (wn_add (wn_mul bk bl) (AA_wn i1))).of (by clear v1 l1 l2 i1; grind) (by clear v1 l1 l2 i1; grind)
theorem ratW_mid {s : Nat} (fs : Fin s) (bs : Wn (vl s) (9963 / 10000)) : 1 / 700 ≤ vl (ratW s) ∧ vl (ratW s) ≤ 700 := by
  have u1 : uu = 1 / 9007199254740992 := uu_eq
  obtain ⟨f1, y0, e1⟩ := ratW_near fs (bs.mono (by grind))
  have p0 : 37 / 10000 ≤ 1 + vl s := by have := bs.1; grind
  have q0 : 37 / 10000 ≤ 1 - vl s := by have := bs.2; grind
  have p2 : 1 + vl s ≤ 2 := by have := bs.2; grind
  have q2 : 1 - vl s ≤ 2 := by have := bs.1; grind
  have hε : 8 * uu * (1 + vl s) ≤ (1 + vl s) / 1000 := by rw [u1]; grind
  have t1 := Rat.mul_le_mul_of_nonneg_left q2 (Rat.le_of_lt y0)
  have t2 := Rat.mul_le_mul_of_nonneg_left q0 (Rat.le_of_lt y0)
  obtain ⟨g1, g2⟩ := e1.mono hε
  generalize vl (ratW s) * (1 - vl s) = w at *
  generalize 1 + vl s = p at *
  clear q0 q2 hε
  constructor <;> grind
theorem isoW_mid {e s : Nat} (h : EccOk e) (fs : Fin s) (bs : Wn (vl s) (9963 / 10000)) : Fin (isoW e s) ∧ Wn (vl (isoW e s)) (37 / 10) := by
  obtain ⟨r1, r2⟩ := ratW_mid fs bs
  obtain ⟨f0, _, _⟩ := ratW_near fs (bs.mono (by grind))
  obtain ⟨g1, b1⟩ := lnP_mid f0 r1 r2
  obtain ⟨ft, et, bt⟩ := small_t h fs (bs.mono (by grind))
  obtain ⟨g2, b2⟩ := lnA_small ft bt
  have bA : Wn (AA (vl (fmul e s))) (3 / 10) := by
    have h1 := AA_lip (show Wn (vl (fmul e s)) (172 / 1000) from bt.mono (by grind)) (show Wn (0 : Rat) (172 / 1000) from ⟨by grind, by grind⟩) (D := 142 / 1000) (bt.of (by grind) Rat.le_refl)
    rw [AA_zero] at h1
    exact h1.of (by grind) (by grind)
  have b2' : Wn (vl (lnP (ratW (fmul e s)))) (31 / 100) := (wn_add b2 bA).of (by grind) (by grind)
  have be : Wn (vl e) (1416 / 10000) := ⟨by have := h.e0; grind, h.e1⟩
  obtain ⟨k1, k2, _⟩ := isoW_near h fs (bs.mono (by grind))
  have t := wn_mul be b2'
  refine ⟨k1, ?_⟩
  generalize vl e * vl (lnP (ratW (fmul e s))) = q at *
  clear be bA b2 b2' bt et
  obtain ⟨_, _⟩ := k2
  obtain ⟨_, _⟩ := t
  obtain ⟨_, _⟩ := b1
  constructor <;> grind
/-- Mercator's paper: where a latitude comes to lie, and that it comes back -/
theorem merc_there {e A : Nat} (h : EccOk e) (fA : Fin A) (a1 : 1 / 10 ≤ vl A) (a2 : vl A ≤ 20001000) {lat : Int} (hl : -85000000000 ≤ lat) (hl2 : lat ≤ 85000000000) :
    Fin (fmul A (isoW e (sinP lat))) ∧ Wn (vl (fmul A (isoW e (sinP lat)))) 100000000 := by
  obtain ⟨fs, bs⟩ := sin_in85 hl hl2
  obtain ⟨fi, bi⟩ := isoW_mid h fs bs
  obtain ⟨f1, b1, _⟩ := there_back fA fi a1 (by grind) (B := 37 / 10) (by grind) bi
  exact ⟨f1, b1.mono (by grind)⟩
theorem merc_up {e A : Nat} (h : EccOk e) (fA : Fin A) (a1 : 1 / 10 ≤ vl A) (a2 : vl A ≤ 20001000) {lat north : Int} (hl : -85000000000 ≤ lat) (hn : 1000 ≤ north) (hl2 : lat + north ≤ 85000000000) :
    vl (fmul A (isoW e (sinP lat))) < vl (fmul A (isoW e (sinP (lat + north)))) := by
  have u1 : uu = 1 / 9007199254740992 := uu_eq
  obtain ⟨fs, bs⟩ := sin_in85 hl (m := lat) (by omega)
  obtain ⟨fs', bs'⟩ := sin_in85 (m := lat + north) (by omega) hl2
  obtain ⟨fi, bi⟩ := isoW_mid h fs bs
  obtain ⟨fi', bi'⟩ := isoW_mid h fs' bs'
  have g := iso_apart h (α := lat) (β := lat + north) ⟨by omega, by omega, by omega, .inl ⟨hl, by omega⟩⟩
  generalize isoW e (sinP lat) = x at *
  generalize isoW e (sinP (lat + north)) = y at *
  have bA : Wn (vl A) (vl A) := ⟨by grind, Rat.le_refl⟩
  obtain ⟨_, e1⟩ := mulE fA fi _ (wn_mul bA bi) (by grind)
  obtain ⟨_, e2⟩ := mulE fA fi' _ (wn_mul bA bi') (by grind)
  have t := Rat.mul_le_mul_of_nonneg_left g (show 0 ≤ vl A by grind)
  have ee : vl A * (vl y - vl x) = vl A * vl y - vl A * vl x := by grind
  rw [ee] at t
  obtain ⟨_, _⟩ := e1
  obtain ⟨_, _⟩ := e2
  generalize vl A * vl x = p at *
  generalize vl A * vl y = q at *
  rw [u1] at *
  clear bA bi bi' bs bs' ee
  grind
/-- how far east a longitude comes to lie, and that it comes back -/
theorem east_there {A : Nat} (fA : Fin A) (a1 : 1 / 10 ≤ vl A) (a2 : vl A ≤ 20001000) {o : Int} (h1 : -180000000000 ≤ o) (h2 : o ≤ 180000000000) :
    Fin (fmul A (fmul (floatOfInt .f64 o) RAD)) ∧ Wn (vl (fmul A (fmul (floatOfInt .f64 o) RAD))) 100000000 ∧ Fin (fdiv (fmul A (fmul (floatOfInt .f64 o) RAD)) A) ∧
    Wn (vl (fdiv (fmul A (fmul (floatOfInt .f64 o) RAD)) A)) (3199 / 1000) ∧ Wn (vl (fdiv (fmul A (fmul (floatOfInt .f64 o) RAD)) A) - (o : Rat) * rho) (2 / 10000000000000) := by
  have u1 : uu = 1 / 9007199254740992 := uu_eq
  obtain ⟨f1, e1⟩ := vl_int o (by omega)
  have bo : Wn ((o : Int) : Rat) 180000000000 := ⟨castle (a := -180000000000) h1, castle (b := 180000000000) h2⟩
  have br : Wn (vl RAD) (17454 / 1000000000000000) := by rw [v_rad.2]; exact ⟨by have := rho_lo; grind, rho_hi⟩
  obtain ⟨f2, e2⟩ := mulE f1 v_rad.1 (314172 / 100000) (by rw [e1]; exact (wn_mul bo br).mono (by grind)) (by grind)
  rw [e1, v_rad.2] at e2
  rw [v_rad.2] at br
  have bI : Wn (vl (fmul (floatOfInt .f64 o) RAD)) (31418 / 10000) := (wn_add e2 (wn_mul bo br)).of (by grind) (by rw [u1]; grind)
  generalize fmul (floatOfInt .f64 o) RAD = I at *
  obtain ⟨f3, b3, f4, e4⟩ := there_back fA f2 a1 (by grind) (B := 31418 / 10000) (by grind) bI
  refine ⟨f3, b3.mono (by grind), f4, (wn_add e4 bI).of (by grind) (by grind), (wn_add e4 e2).of (by grind) (by rw [u1]; grind)⟩
end Go.Fp.Tri
namespace Go.Proofs.YtcppgbhjbmfldaaGreatDoor
open Go.Fp Go.Fp.Tri
set_option maxRecDepth 20000
theorem near_east {L : Nat} {o : Int} (h1 : -180000000000 ≤ o) (h2 : o ≤ 180000000000) (fL : Fp.Fin L) (h : Wn (vl L - (o : Rat) * rho) (2 / 10000000000000)) : nearP L = o := by
  have u1 : uu = 1 / 9007199254740992 := uu_eq
  have bo : Wn ((o : Int) : Rat) 180000000000 := ⟨castle (a := -180000000000) h1, castle (b := 180000000000) h2⟩
  have r0 := rho_pos
  have q : Wn (vl L / rho - (o : Rat)) (1 / 50) := by
    refine wn_quot (c := rho) (c0 := 17453 / 1000000000000000) (by grind) rho_lo ?_
    have e : (vl L / rho - (o : Rat)) * rho = vl L / rho * rho - (o : Rat) * rho := by grind
    rw [e, div_mul_c (ne_of_pos r0) rfl]
    exact h.mono (by grind)
  have q2 : Wn (vl L / rho) 180000000001 := (wn_add q bo).of (by grind) (by grind)
  unfold nearP
  rw [show can cRad = RAD from v_rad.1.can]
  obtain ⟨f, e⟩ := divE fL v_rad.1 (by rw [v_rad.2]; exact ne_of_pos r0) 180000000001 (by rw [v_rad.2]; exact q2) (by grind)
  rw [v_rad.2] at e
  exact nearV_is f ⟨by omega, by omega⟩ ((wn_add e q).of (by grind) (by rw [u1]; grind))
end Go.Proofs.YtcppgbhjbmfldaaGreatDoor
