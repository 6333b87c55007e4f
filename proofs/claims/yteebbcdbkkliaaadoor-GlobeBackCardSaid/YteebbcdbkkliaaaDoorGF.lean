/- The program's sine and cosine of any angle against the polynomials. -/
import Derived.Test.YteebbcdbkkliaaaDoorGE
namespace Go.Fp.Tri
open Go.Fp Ieee
set_option maxRecDepth 20000

theorem rem_in (b : Int) : -45000000000 ≤ b - quart b * 90000000000 ∧ b - quart b * 90000000000 ≤ 45000000000 := by unfold quart; omega
abbrev tol : Rat := 1 / 100000000000000
def Near (x : Nat) (v : Rat) : Prop := Fin x ∧ Wn (vl x - v) tol
theorem Near.neg {x : Nat} {v : Rat} (h : Near x v) : Near (Op.negFloat .f64 x) (-v) := by
  obtain ⟨h1, h2⟩ := h
  obtain ⟨k1, k2⟩ := vl_neg x h1
  refine ⟨k1, ?_⟩
  rw [k2]
  obtain ⟨a, b⟩ := h2
  constructor <;> grind
/-- what is left over of the quarter -/
def lef (a : Int) : Rat := ((normP a - quart (normP a) * 90000000000 : Int) : Rat) * rho
theorem sOf_near (a : Int) : Near (sOf (normP a)) (S (lef a)) ∧ Near (cOf (normP a)) (C (lef a)) := by
  obtain ⟨h1, h2⟩ := rem_in (normP a)
  exact sc_err h1 h2 (xOf (normP a)) (zOf (normP a)) _ _ rfl rfl rfl rfl
theorem trig0 {a : Int} (h : quart (normP a) % 4 = 0) : Near (sinP a) (S (lef a)) ∧ Near (cosP a) (C (lef a)) := by
  obtain ⟨h1, h2⟩ := sOf_near a
  unfold sinP cosP sinN cosN
  rw [if_pos h, if_pos h]
  exact ⟨h1, h2⟩
theorem trig1 {a : Int} (h : quart (normP a) % 4 = 1) : Near (sinP a) (C (lef a)) ∧ Near (cosP a) (-S (lef a)) := by
  obtain ⟨h1, h2⟩ := sOf_near a
  unfold sinP cosP sinN cosN
  rw [if_neg (by omega), if_pos h, if_neg (by omega), if_pos h]
  exact ⟨h2, h1.neg⟩
theorem trig2 {a : Int} (h : quart (normP a) % 4 = 2) : Near (sinP a) (-S (lef a)) ∧ Near (cosP a) (-C (lef a)) := by
  obtain ⟨h1, h2⟩ := sOf_near a
  unfold sinP cosP sinN cosN
  rw [if_neg (by omega), if_neg (by omega), if_pos h, if_neg (by omega), if_neg (by omega), if_pos h]
  exact ⟨h1.neg, h2.neg⟩
theorem trig3 {a : Int} (h : quart (normP a) % 4 = 3) : Near (sinP a) (-C (lef a)) ∧ Near (cosP a) (S (lef a)) := by
  obtain ⟨h1, h2⟩ := sOf_near a
  unfold sinP cosP sinN cosN
  rw [if_neg (by omega), if_neg (by omega), if_neg (by omega), if_neg (by omega), if_neg (by omega), if_neg (by omega)]
  exact ⟨h2.neg, h1⟩
theorem lef_eq {a r : Int} (h : normP a - quart (normP a) * 90000000000 = r) : lef a = (r : Rat) * rho := by unfold lef; rw [h]
/-- from minus a quarter of a turn to a quarter -/
theorem trig_lat {a : Int} (h1 : -90000000000 ≤ a) (h2 : a ≤ 90000000000) : Near (sinP a) (sI a) ∧ Near (cosP a) (cI a) := by
  rcases Int.lt_or_le a (-45000000000) with c1 | c1
  · have hq : quart (normP a) % 4 = 3 := by unfold quart normP; omega
    have e := lef_eq (a := a) (r := a + 90000000000) (by unfold quart normP; omega)
    have := trig3 hq
    unfold sI cI
    rw [if_pos c1, if_pos c1, ← e]; exact this
  · rcases Int.lt_or_le a 45000000000 with c2 | c2
    · have hq : quart (normP a) % 4 = 0 := by unfold quart normP; omega
      have e := lef_eq (a := a) (r := a) (by unfold quart normP; omega)
      have := trig0 hq
      unfold sI cI
      rw [if_neg (by omega), if_pos c2, if_neg (by omega), if_pos c2, ← e]; exact this
    · have hq : quart (normP a) % 4 = 1 := by unfold quart normP; omega
      have e := lef_eq (a := a) (r := a - 90000000000) (by unfold quart normP; omega)
      have := trig1 hq
      unfold sI cI
      rw [if_neg (by omega), if_neg (by omega), if_neg (by omega), if_neg (by omega), ← e]; exact this
theorem sinP_norm (a b : Int) (h : normP a = normP b) : sinP a = sinP b ∧ cosP a = cosP b := by
  unfold sinP cosP
  rw [h]; exact ⟨rfl, rfl⟩
/-- half a turn on, both change their signs -/
theorem trig_half {a : Int} (h1 : 90000000000 ≤ a) (h2 : a ≤ 270000000000) : Near (sinP a) (-sI (a - 180000000000)) ∧ Near (cosP a) (-cI (a - 180000000000)) := by
  rcases Int.lt_or_le a 135000000000 with c1 | c1
  · have hq : quart (normP a) % 4 = 1 := by unfold quart normP; omega
    have e := lef_eq (a := a) (r := a - 180000000000 + 90000000000) (by unfold quart normP; omega)
    have := trig1 hq
    unfold sI cI
    rw [if_pos (by omega), if_pos (by omega), ← e, show - -C (lef a) = C (lef a) by grind]; exact this
  · rcases Int.lt_or_le a 225000000000 with c2 | c2
    · have hq : quart (normP a) % 4 = 2 := by unfold quart normP; omega
      have e := lef_eq (a := a) (r := a - 180000000000) (by unfold quart normP; omega)
      have := trig2 hq
      unfold sI cI
      rw [if_neg (by omega), if_pos (by omega), if_neg (by omega), if_pos (by omega), ← e]; exact this
    · have hq : quart (normP a) % 4 = 3 := by unfold quart normP; omega
      have e := lef_eq (a := a) (r := a - 180000000000 - 90000000000) (by unfold quart normP; omega)
      have := trig3 hq
      unfold sI cI
      rw [if_neg (by omega), if_neg (by omega), if_neg (by omega), if_neg (by omega), ← e, show - -S (lef a) = S (lef a) by grind]; exact this

/-! the bisection -/
theorem bis_ok (p : Int → Bool) : ∀ (n : Nat) (lo hi l0 h0 : Int), lo < hi → (hi - lo).toNat ≤ n → (p lo = true ∨ lo = l0) → (p hi = false ∨ hi = h0) →
    lo ≤ bis p n lo hi ∧ bis p n lo hi < hi ∧ (p (bis p n lo hi) = true ∨ bis p n lo hi = l0) ∧ (p (bis p n lo hi + 1) = false ∨ bis p n lo hi + 1 = h0)
  | 0, lo, hi, l0, h0, h, hn, _, _ => by omega
  | n + 1, lo, hi, l0, h0, h, hn, hl, hh => by
    unfold bis
    split
    · split
      · rename_i h1 h2
        obtain ⟨a, b, c, d⟩ := bis_ok p n ((lo + hi) / 2) hi l0 h0 (by omega) (by omega) (.inl h2) hh
        exact ⟨by omega, b, c, d⟩
      · rename_i h1 h2
        obtain ⟨a, b, c, d⟩ := bis_ok p n lo ((lo + hi) / 2) l0 h0 (by omega) (by omega) hl (.inl (by simpa using h2))
        exact ⟨a, by omega, c, d⟩
    · have e : lo + 1 = hi := by omega
      rw [e]
      exact ⟨by omega, by omega, hl, hh⟩
theorem quad_ok (u w : Nat) : 0 ≤ quad u w ∧ quad u w ≤ 90000000000 ∧ (fle (fmul (sinP (quad u w)) u) (fmul (cosP (quad u w)) w) = true ∨ quad u w = 0) ∧ (fle (fmul (sinP (quad u w + 1)) u) (fmul (cosP (quad u w + 1)) w) = false ∨ quad u w = 90000000000) := by
  obtain ⟨a, b, c, d⟩ := bis_ok (fun m => fle (fmul (sinP m) u) (fmul (cosP m) w)) (90000000001 - 0 : Int).toNat 0 90000000001 0 90000000001 (by omega) (by omega) (.inr rfl) (.inr rfl)
  have e : quad u w = bis (fun m => fle (fmul (sinP m) u) (fmul (cosP m) w)) (90000000001 - 0 : Int).toNat 0 90000000001 := by unfold quad bisect; rfl
  rw [e]
  generalize bis (fun m => fle (fmul (sinP m) u) (fmul (cosP m) w)) (90000000001 - 0 : Int).toNat 0 90000000001 = q at *
  refine ⟨a, by omega, c, ?_⟩
  rcases d with d | d
  · exact .inl d
  · exact .inr (by omega)

/-- so little a triangle's angle is off, that is told by sides which are a little off -/
theorem side_true {m t : Int} (hm : 0 ≤ m) (hm2 : m ≤ 90000000000) (ht : 0 ≤ t) (ht2 : t ≤ 90000000000) {u w : Nat} {R Eu Ew : Rat} (hu : Fin u) (hw : Fin w)
    (hR : 1 ≤ R) (hR2 : R ≤ 100000000) (eu : Wn (vl u - R * cI t) (R * Eu)) (ew : Wn (vl w - R * sI t) (R * Ew)) (hEu : Eu ≤ 1 / 2) (hEw : Ew ≤ 1 / 2)
    (G : Bool) (hG : fle (fmul (sinP m) u) (fmul (cosP m) w) = G) :
    (G = true → S (((m : Rat) - t) * rho) ≤ 1001 / 1000 * (Eu + Ew) + 13 / 10000000000000) ∧ (G = false → -(1001 / 1000 * (Eu + Ew) + 13 / 10000000000000) ≤ S (((m : Rat) - t) * rho)) := by
  obtain ⟨⟨fs, es⟩, ⟨fc, ec⟩⟩ := trig_lat (a := m) (by omega) hm2
  have bs := wn_sI (m := m) (by omega) hm2
  have bc := wn_cI (m := m) (by omega) hm2
  have bst := wn_sI (m := t) (by omega) ht2
  have bct := wn_cI (m := t) (by omega) ht2
  have cr := cross hm hm2 ht ht2
  have hR0 : 0 ≤ R := by grind
  have bR : Wn R R := ⟨by grind, by grind⟩
  have bu : Wn (vl u) (R * (1502 / 1000)) := by
    have h := wn_add eu (wn_mul bR bct)
    refine h.of (by grind) ?_
    have := Rat.mul_le_mul_of_nonneg_left hEu hR0
    grind
  have bw : Wn (vl w) (R * (1502 / 1000)) := by
    have h := wn_add ew (wn_mul bR bst)
    refine h.of (by grind) ?_
    have := Rat.mul_le_mul_of_nonneg_left hEw hR0
    grind
  have u1 : uu = 1 / 9007199254740992 := uu_eq
  have bvs : Wn (vl (sinP m)) (1002 / 1000) := (wn_add es bs).of (by grind) (by grind)
  have bvc : Wn (vl (cosP m)) (1002 / 1000) := (wn_add ec bc).of (by grind) (by grind)
  obtain ⟨f1, e1⟩ := mulE fs hu _ (wn_mul bvs bu) (by grind)
  obtain ⟨f2, e2⟩ := mulE fc hw _ (wn_mul bvc bw) (by grind)
  have hiff := fle_vl f1 f2
  rw [hG] at hiff
  -- both sides as they ought to be
  have n1 : Wn (vl (fmul (sinP m) u) - sI m * vl u) (R * (16 / 1000000000000000 + 3 / 9007199254740992)) := (wn_add e1 (wn_mul es bu)).of (by grind) (by rw [u1]; grind)
  have n2 : Wn (vl (fmul (cosP m) w) - cI m * vl w) (R * (16 / 1000000000000000 + 3 / 9007199254740992)) := (wn_add e2 (wn_mul ec bw)).of (by grind) (by rw [u1]; grind)
  have m1 := wn_mul bs eu
  have m2 := wn_mul bc ew
  have cR := wn_mul bR cr
  generalize vl (fmul (sinP m) u) = x at *
  generalize vl (fmul (cosP m) w) = y at *
  generalize S (((m : Rat) - t) * rho) = Z at *
  have key : Wn (R * Z - (x - y)) (R * (1001 / 1000 * (Eu + Ew) + 13 / 10000000000000)) := by
    have h := wn_add (wn_add n1 n2) (wn_add (wn_add m1 m2) cR)
    obtain ⟨⟨_, _⟩, ⟨_, _⟩⟩ := And.intro n1 n2
    obtain ⟨⟨_, _⟩, ⟨_, _⟩⟩ := And.intro m1 m2
    obtain ⟨_, _⟩ := cR
    constructor <;> grind
  have hRp : 0 < R := by grind
  constructor
  · intro hg
    have hxy := hiff.1 hg
    have h : R * Z ≤ R * (1001 / 1000 * (Eu + Ew) + 13 / 10000000000000) := by have := key.2; grind
    exact Rat.le_of_mul_le_mul_left h hRp
  · intro hg
    have hxy : y ≤ x := by
      rcases Rat.le_total (a := x) (b := y) with h | h
      · have := hiff.2 h; rw [hg] at this; cases this
      · exact h
    have h : R * (-(1001 / 1000 * (Eu + Ew) + 13 / 10000000000000)) ≤ R * Z := by have := key.1; grind
    exact Rat.le_of_mul_le_mul_left h hRp
end Go.Fp.Tri
