/- The longitude comes back. -/
import Derived.Test.YteebbcdbkkliaaaDoorGJ
namespace Go.Proofs.YteebbcdbkkliaaaDoor
open Go.Fp Go.Fp.Tri
set_option maxRecDepth 20000
theorem lon_quad {x y : Nat} {l : Int} {R : Rat} (fx : Fp.Fin x) (fy : Fp.Fin y) (l0 : 0 ≤ l) (l1 : l ≤ 90000000000) (hR : 1 ≤ R) (hR2 : R ≤ 100000000)
    (hx : Wn (vl x - R * cI l) (R * (2 / 100000000000000)) ∨ Wn (-vl x - R * cI l) (R * (2 / 100000000000000))) (hy : Wn (vl y - R * sI l) (R * (2 / 100000000000000)) ∨ Wn (-vl y - R * sI l) (R * (2 / 100000000000000))) :
    quad (absW x) (absW y) - l ≤ 0 ∧ l - quad (absW x) (absW y) ≤ 1 := by
  obtain ⟨gx, vx⟩ := vl_abs fx
  obtain ⟨gy, vy⟩ := vl_abs fy
  have ex := near_abs (Rat.mul_nonneg (show 0 ≤ R by grind) (cI_nonneg l0 l1)) hx
  have ey := near_abs (Rat.mul_nonneg (show 0 ≤ R by grind) (sI_nonneg l0 l1)) hy
  rw [← vx] at ex
  rw [← vy] at ey
  obtain ⟨a0, a1, a2, a3⟩ := quad_near l0 l1 gx gy hR hR2 ex ey (by grind) (by grind)
  have r0 := rho_pos
  have rl := rho_lo
  generalize quad (absW x) (absW y) = q at *
  constructor
  · refine whole_le (x := 2 / 10) ?_ (by grind)
    refine le_of_scaled r0 ?_
    push_cast
    grind
  · refine whole_le (x := 12 / 10) ?_ (by grind)
    refine le_of_scaled r0 ?_
    push_cast
    grind
theorem cos_90 : vl (cosP 90000000000) = 0 := by
  have e : cosP 90000000000 = 9223372036854775808 := by decide +kernel
  have h : D.read 9223372036854775808 = .number true 0 (-1074) := by decide +kernel
  rw [e, vl_of h]
  unfold vd
  simp
theorem sin_180 : vl (sinP 180000000000) = 0 := by
  have e : sinP 180000000000 = 9223372036854775808 := by decide +kernel
  have h : D.read 9223372036854775808 = .number true 0 (-1074) := by decide +kernel
  rw [e, vl_of h]
  unfold vd
  simp
theorem cos_270 : vl (cosP 270000000000) = 0 := by
  have e : cosP 270000000000 = 0 := by decide +kernel
  rw [e, v_0.2]
/-- the two of a circle at any longitude -/
theorem lon_two (lon : Int) : ∃ C0 S0 : Rat, Near (cosP lon) C0 ∧ Near (sinP lon) S0 ∧ Wn (C0 * C0 + S0 * S0 - 1) (1 / 1000000000000000) ∧
    ((normP lon ≤ 90000000000 ∧ C0 = cI (normP lon) ∧ S0 = sI (normP lon)) ∨ (90000000000 < normP lon ∧ normP lon < 270000000000 ∧ C0 = -cI (normP lon - 180000000000) ∧ S0 = -sI (normP lon - 180000000000)) ∨
      (270000000000 ≤ normP lon ∧ C0 = cI (normP lon - 360000000000) ∧ S0 = sI (normP lon - 360000000000))) := by
  obtain ⟨n0, n1⟩ := norm_range lon
  have hn : ∀ b : Int, normP lon = normP b → sinP lon = sinP b ∧ cosP lon = cosP b := fun b h => sinP_norm lon b h
  generalize normP lon = b at *
  rcases Int.lt_or_le 90000000000 b with h1 | h1
  · rcases Int.lt_or_le b 270000000000 with h2 | h2
    · obtain ⟨e1, e2⟩ := hn b (by unfold normP; omega)
      obtain ⟨t1, t2⟩ := trig_half (a := b) (by omega) (by omega)
      rw [e1, e2]
      refine ⟨_, _, t2, t1, ?_, .inr (.inl ⟨h1, h2, rfl, rfl⟩)⟩
      have := one_I (m := b - 180000000000) (by omega) (by omega)
      exact this.of (by grind) Rat.le_refl
    · obtain ⟨e1, e2⟩ := hn (b - 360000000000) (by unfold normP; omega)
      obtain ⟨t1, t2⟩ := trig_lat (a := b - 360000000000) (by omega) (by omega)
      rw [e1, e2]
      exact ⟨_, _, t2, t1, one_I (by omega) (by omega), .inr (.inr ⟨h2, rfl, rfl⟩)⟩
  · obtain ⟨e1, e2⟩ := hn b (by unfold normP; omega)
    obtain ⟨t1, t2⟩ := trig_lat (a := b) (by omega) h1
    rw [e1, e2]
    exact ⟨_, _, t2, t1, one_I (by omega) (by omega), .inl ⟨h1, rfl, rfl⟩⟩
theorem sign_pos {R c x : Rat} (hR : 1000 ≤ R) (hc : 100 / 10000000000000 ≤ c) (h : Wn (x - R * c) (R * (11 / 1000000000000000))) : 0 < x := by
  have := Rat.mul_le_mul_of_nonneg_left hc (show 0 ≤ R by grind)
  have := h.1
  grind
theorem sign_neg {R c x : Rat} (hR : 1000 ≤ R) (hc : c ≤ -(100 / 10000000000000)) (h : Wn (x - R * c) (R * (11 / 1000000000000000))) : x < 0 := by
  have := Rat.mul_le_mul_of_nonneg_left hc (show 0 ≤ R by grind)
  have := h.2
  grind
theorem norm_eq {lon b : Int} (h : normP lon = b) (h0 : 0 ≤ b) (h1 : b < 360000000000) : sinP lon = sinP b ∧ cosP lon = cosP b := sinP_norm lon b (by rw [h]; unfold normP; omega)
/-- apart: by how much -/
def apartP (p q : Int) : Int := signP (normP p - normP q)
set_option maxHeartbeats 2000000 in
theorem lon_back {lon : Int} {d : Nat} (fd : Fp.Fin d) (d1 : 1000 ≤ vl d) (d2 : vl d ≤ 100000000) :
    -1 ≤ apartP (angS (fmul d (sinP lon)) (fmul d (cosP lon))) lon ∧ apartP (angS (fmul d (sinP lon)) (fmul d (cosP lon))) lon ≤ 1 := by
  obtain ⟨C0, S0, ⟨fk, ek⟩, ⟨fs, es⟩, one, cases⟩ := lon_two lon
  obtain ⟨⟨fx, ex⟩, ⟨fy, ey⟩, _⟩ := root_near fd fk fs d1 d2 ek es one
  have bk : Wn (vl (cosP lon)) 2 := by
    have hC : Wn C0 (1001 / 1000) := sq_le (c := S0) ((show C0 * C0 + S0 * S0 - 1 = S0 * S0 + C0 * C0 - 1 by grind) ▸ one)
    exact (wn_add ek hC).of (by grind) (by grind)
  have bs : Wn (vl (sinP lon)) 2 := by
    have hS : Wn S0 (1001 / 1000) := sq_le one
    exact (wn_add es hS).of (by grind) (by grind)
  have bd : Wn (vl d) (vl d) := ⟨by grind, by grind⟩
  have zx : vl (cosP lon) = 0 → 0 ≤ vl (fmul d (cosP lon)) := fun h => fmul_nonneg fd fk _ (wn_mul bd bk) (big_le' (by grind)) (by rw [h]; grind)
  have zy : vl (sinP lon) = 0 → 0 ≤ vl (fmul d (sinP lon)) := fun h => fmul_nonneg fd fs _ (wn_mul bd bs) (big_le' (by grind)) (by rw [h]; grind)
  obtain ⟨n0, n1⟩ := norm_range lon
  have zn := norm_eq (lon := lon) rfl n0 n1
  generalize hb : normP lon = b at *
  have zx1 : b = 90000000000 → 0 ≤ vl (fmul d (cosP lon)) := fun h => zx (by rw [zn.2, h]; exact cos_90)
  have zx2 : b = 270000000000 → 0 ≤ vl (fmul d (cosP lon)) := fun h => zx (by rw [zn.2, h]; exact cos_270)
  have zy1 : b = 0 → 0 ≤ vl (fmul d (sinP lon)) := fun h => zy (by rw [zn.1, h]; exact sin_zero)
  have zy2 : b = 180000000000 → 0 ≤ vl (fmul d (sinP lon)) := fun h => zy (by rw [zn.1, h]; exact sin_180)
  clear zx zy zn ek es bk bs fk fs
  generalize fmul d (cosP lon) = x at *
  generalize fmul d (sinP lon) = y at *
  have R0 : 0 ≤ vl d := by grind
  have dd : vl d * (1 / 1000000000000000) + vl d * (11 / 1000000000000000) ≤ vl d * (2 / 100000000000000) := by grind
  unfold apartP
  rw [hb]
  rcases cases with ⟨h1, rfl, rfl⟩ | ⟨h1, h2, rfl, rfl⟩ | ⟨h1, rfl, rfl⟩
  · -- the first quarter
    obtain ⟨q1, q2⟩ := lon_quad fx fy n0 h1 (by grind) d2 (.inl (ex.mono (by grind))) (.inl (ey.mono (by grind)))
    obtain ⟨q3, q4⟩ := quad_range (absW x) (absW y)
    have sx : 0 ≤ vl x := by
      rcases Int.lt_or_le b 90000000000 with h | h
      · exact Rat.le_of_lt (sign_pos d1 (by have := cI_pos n0 h; grind) ex)
      · exact zx1 (by omega)
    have sy : 0 ≤ vl y := by
      rcases Int.lt_or_le 0 b with h | h
      · exact Rat.le_of_lt (sign_pos d1 (by have := sI_pos (show 1 ≤ b by omega) h1; grind) ey)
      · exact zy1 (by omega)
    have ne : vl x ≠ 0 ∨ vl y ≠ 0 := by
      rcases Int.lt_or_le 0 b with h | h
      · right
        have := sign_pos d1 (by have := sI_pos (show 1 ≤ b by omega) h1; grind) ey
        grind
      · left
        have := sign_pos d1 (by have := cI_pos n0 (show b < 90000000000 by omega); grind) ex
        grind
    have e : angS y x = quad (absW x) (absW y) := by
      unfold angS
      rw [angle_pp fy fx ne sx sy]
      unfold signP normP
      split <;> omega
    rw [e]
    generalize quad (absW x) (absW y) = q at *
    unfold signP normP
    split <;> omega
  · rcases Int.lt_or_le 180000000000 b with hh | hh
    · -- the third
      obtain ⟨l, hl⟩ : ∃ l, l = b - 180000000000 := ⟨_, rfl⟩
      rw [← hl] at ex ey
      have l0 : 1 ≤ l := by omega
      have l1 : l < 90000000000 := by omega
      have cp := cI_pos (show 0 ≤ l by omega) l1
      have sp := sI_pos l0 (show l ≤ 90000000000 by omega)
      obtain ⟨q1, q2⟩ := lon_quad fx fy (show 0 ≤ l by omega) (show l ≤ 90000000000 by omega) (by grind) d2
        (.inr (by obtain ⟨_, _⟩ := ex; constructor <;> grind)) (.inr (by obtain ⟨_, _⟩ := ey; constructor <;> grind))
      obtain ⟨q3, q4⟩ := quad_range (absW x) (absW y)
      have sx := sign_neg d1 (show -cI l ≤ -(100 / 10000000000000) by grind) ex
      have sy := sign_neg d1 (show -sI l ≤ -(100 / 10000000000000) by grind) ey
      unfold angS
      rw [angle_nn fy fx sx sy]
      generalize quad (absW x) (absW y) = q at *
      unfold signP normP
      repeat' split
      all_goals omega
    · -- the second
      obtain ⟨l, hl⟩ : ∃ l, l = 180000000000 - b := ⟨_, rfl⟩
      rw [show b - 180000000000 = -l by omega] at ex ey
      have l0 : 0 ≤ l := by omega
      have l1 : l < 90000000000 := by omega
      have cp := cI_pos l0 l1
      obtain ⟨o1, o2⟩ := sI_odd l0 (show l ≤ 90000000000 by omega)
      have p1 := wn_mul bd o1
      have p2 := wn_mul bd o2
      obtain ⟨q1, q2⟩ := lon_quad fx fy l0 (show l ≤ 90000000000 by omega) (by grind) d2
        (.inr ((wn_sub p2 ex).of (by grind) (by grind))) (.inl ((wn_sub ey p1).of (by grind) (by grind)))
      obtain ⟨q3, q4⟩ := quad_range (absW x) (absW y)
      have sx := sign_neg d1 (show -cI (-l) ≤ -(100 / 10000000000000) by have := o2.1; grind) ex
      have sy : 0 ≤ vl y := by
        rcases Int.lt_or_le b 180000000000 with h | h
        · have sp := sI_pos (show 1 ≤ l by omega) (show l ≤ 90000000000 by omega)
          exact Rat.le_of_lt (sign_pos d1 (show 100 / 10000000000000 ≤ -sI (-l) by have := o1.2; grind) ey)
        · exact zy2 (by omega)
      unfold angS
      rw [angle_np fy fx sx sy]
      generalize quad (absW x) (absW y) = q at *
      unfold signP normP
      repeat' split
      all_goals omega
  · -- the fourth
    obtain ⟨l, hl⟩ : ∃ l, l = 360000000000 - b := ⟨_, rfl⟩
    rw [show b - 360000000000 = -l by omega] at ex ey
    have l0 : 1 ≤ l := by omega
    have l1 : l ≤ 90000000000 := by omega
    have sp := sI_pos l0 l1
    obtain ⟨o1, o2⟩ := sI_odd (show 0 ≤ l by omega) l1
    have p1 := wn_mul bd o1
    have p2 := wn_mul bd o2
    obtain ⟨q1, q2⟩ := lon_quad fx fy (show 0 ≤ l by omega) l1 (by grind) d2
      (.inl ((wn_add ex p2).of (by grind) (by grind))) (.inr ((wn_sub (show Wn (0 : Rat) 0 from ⟨by grind, by grind⟩) (wn_add ey p1)).of (by grind) (by grind)))
    obtain ⟨q3, q4⟩ := quad_range (absW x) (absW y)
    have sx : 0 ≤ vl x := by
      rcases Int.lt_or_le l 90000000000 with h | h
      · have cp := cI_pos (show 0 ≤ l by omega) h
        exact Rat.le_of_lt (sign_pos d1 (show 100 / 10000000000000 ≤ cI (-l) by have := o2.1; grind) ex)
      · exact zx2 (by omega)
    have sy := sign_neg d1 (show sI (-l) ≤ -(100 / 10000000000000) by have := o1.2; grind) ey
    unfold angS
    rw [angle_pn fy fx sx sy]
    generalize quad (absW x) (absW y) = q at *
    unfold signP normP
    repeat' split
    all_goals omega
end Go.Proofs.YteebbcdbkkliaaaDoor
