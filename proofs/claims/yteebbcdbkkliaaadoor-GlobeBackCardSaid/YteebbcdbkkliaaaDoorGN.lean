/- There and back: the law in plain words. -/
import Derived.Test.YteebbcdbkkliaaaDoorGL
import Derived.Test.YteebbcdbkkliaaaDoorGM
namespace Go.Proofs.YteebbcdbkkliaaaDoor
open Go.Fp Go.Fp.Tri
set_option maxRecDepth 20000
variable {a f high : Nat}
theorem v_1e9 : Fp.Fin cHi ∧ vl cHi = 1000000000 := vl_const (s := false) (m := 8388608000000000) (k := 23) (by decide +kernel) (by decide +kernel)
theorem v_m1e7 : Fp.Fin cLo ∧ vl cLo = -10000000 := vl_const (s := true) (m := 5368709120000000) (k := 29) (by decide +kernel) (by decide +kernel)
theorem v_top : Fp.Fin cTop ∧ vl cTop = 10000000000 := vl_const (s := false) (m := 5242880000000000) (k := 19) (by decide +kernel) (by decide +kernel)
theorem v_quarter : Fp.Fin 4598175219545276416 ∧ vl 4598175219545276416 = 1 / 4 := vl_const (s := false) (m := 4503599627370496) (k := 54) (by decide +kernel) (by decide +kernel)
theorem btw_of {x lo hi : Nat} (hx : Fp.Fin x) (hl : Fp.Fin lo) (hh : Fp.Fin hi) (h1 : vl lo ≤ vl x) (h2 : vl x ≤ vl hi) : btw x lo hi = true := by
  unfold btw
  rw [(fge_vl hx hl).2 h1, (fle_vl hx hh).2 h2]
  rfl
theorem okG_of (s : Snd a f high) : okG a f = true := by
  have a1 := s.a1
  have a2 := s.a2
  have f1 := s.f1
  have f2 := s.f2
  unfold okG
  have o := v_one.2
  rw [btw_of s.fa v_one.1 v_1e9.1 (by rw [v_one.2]; grind) (by rw [v_1e9.2]; grind), btw_of s.ff v_0.1 v_quarter.1 (by rw [v_0.2]; grind) (by rw [v_quarter.2]; grind)]
  rfl
theorem high_of (s : Snd a f high) : btw high cLo cHi = true := by
  have h1 := s.h1
  have h2 := s.h2
  exact btw_of s.fh v_m1e7.1 v_1e9.1 (by rw [v_m1e7.2]; grind) (by rw [v_1e9.2]; grind)
set_option maxHeartbeats 2000000 in
theorem len_of (s : Snd a f high) {S Z : Nat} {d R Q c t g : Rat} (fS : Fp.Fin S) (fZ : Fp.Fin Z) (R1 : vl a * (98 / 100) ≤ R) (R2 : R ≤ 12000000) (eS : Wn (vl S - d * d) (d * d * (51 / 1000000000000000))) (ed : Wn (d - R * c) (R * (12 / 1000000000000000)))
    (eZ : Wn (g * vl Z - Q * t) (R * (13 / 1000000000000000))) (hg : g * g = 1) (q1 : R * (97 / 100) ≤ Q) (q2 : Q ≤ R) (one : Wn (c * c + t * t - 1) (1 / 1000000000000000)) :
    D.order (fsqrt (fadd S (fmul Z Z))) (halfP a) = some .gt ∧ D.order (fsqrt (fadd S (fmul Z Z))) cTop = some .lt := by
  have a1 := s.a1
  have a2 := s.a2
  have u1 : uu = 1 / 9007199254740992 := uu_eq
  have bc : Wn c (1001 / 1000) := sq_le (c := t) ((show c * c + t * t - 1 = t * t + c * c - 1 by grind) ▸ one)
  have bt : Wn t (1001 / 1000) := sq_le one
  have R0 : 900000 ≤ R := by grind
  have bR : Wn R R := ⟨by grind, by grind⟩
  have bQ : Wn Q R := ⟨by grind, q2⟩
  have bRc := wn_mul bR bc
  have bQt := wn_mul bQ bt
  have bd : Wn d (R * (1002 / 1000)) := (wn_add ed bRc).of (by grind) (by grind)
  have bgz : Wn (g * vl Z) (R * (1002 / 1000)) := (wn_add eZ bQt).of (by grind) (by grind)
  have RR : 810000000000 ≤ R * R := by
    have := Rat.mul_le_mul_of_nonneg_left R0 (show 0 ≤ R by grind)
    grind
  have RR2 : R * R ≤ 144000000000000 := by
    have := Rat.mul_le_mul_of_nonneg_left R2 (show 0 ≤ R by grind)
    grind
  -- the squares
  have p1 := wn_mul ed (wn_add bd bRc)
  have p2 := wn_mul eZ (wn_add bgz bQt)
  have zz : g * vl Z * (g * vl Z) = vl Z * vl Z := by
    rw [show g * vl Z * (g * vl Z) = (g * g) * (vl Z * vl Z) by grind, hg]; grind
  have s1 : Wn (d * d - R * R * (c * c)) (R * R * (1 / 10000000000000)) := p1.of (by grind) (by grind)
  have s2 : Wn (vl Z * vl Z - Q * Q * (t * t)) (R * R * (1 / 10000000000000)) := p2.of (by rw [← zz]; grind) (by grind)
  have bdd := wn_mul bd bd
  have s3 : Wn (vl S - R * R * (c * c)) (R * R * (2 / 10000000000000)) := (wn_add eS s1).of (by grind) (by have := bdd.2; grind)
  have bzz : Wn (vl Z * vl Z) (R * R * (1005 / 1000)) := by
    rw [← zz]; exact (wn_mul bgz bgz).mono (by grind)
  obtain ⟨f1, e1⟩ := mulB fZ fZ _ bzz (by grind)
  have bS : Wn (vl S) (R * R * (1005 / 1000)) := (wn_add eS bdd).of (by grind) (by have := bdd.2; grind)
  have s4 : Wn (vl (fmul Z Z) - Q * Q * (t * t)) (R * R * (2 / 10000000000000)) := (wn_add e1 s2).of (by grind) (by rw [u1]; grind)
  have bz2 : Wn (vl (fmul Z Z)) (R * R * (1006 / 1000)) := (wn_add e1 bzz).of (by grind) (by rw [u1]; grind)
  generalize fmul Z Z = Z2 at *
  obtain ⟨f2, e2⟩ := addB fS f1 _ (wn_add bS bz2) (by grind)
  have s5 : Wn (vl (fadd S Z2) - (R * R * (c * c) + Q * Q * (t * t))) (R * R * (5 / 10000000000000)) := (wn_add e2 (wn_add s3 s4)).of (by grind) (by rw [u1]; grind)
  generalize fadd S Z2 = L2 at *
  have tt : 0 ≤ t * t := by
    rcases Rat.le_total (a := 0) (b := t) with h | h
    · exact Rat.mul_nonneg h h
    · have := Rat.mul_nonneg (show 0 ≤ -t by grind) (show 0 ≤ -t by grind); grind
  have QQ1 : R * R * (94 / 100) ≤ Q * Q := by
    have := Rat.mul_nonneg (show 0 ≤ Q - R * (97 / 100) by grind) (show 0 ≤ Q + R * (97 / 100) by grind)
    grind
  have QQ2 : Q * Q ≤ R * R := by
    have := Rat.mul_nonneg (show 0 ≤ R - Q by grind) (show 0 ≤ R + Q by grind)
    grind
  have t1 := Rat.mul_le_mul_of_nonneg_right QQ1 tt
  have t2 := Rat.mul_le_mul_of_nonneg_right QQ2 tt
  have cc : 0 ≤ c * c := by
    rcases Rat.le_total (a := 0) (b := c) with h | h
    · exact Rat.mul_nonneg h h
    · have := Rat.mul_nonneg (show 0 ≤ -c by grind) (show 0 ≤ -c by grind); grind
  have c1 := Rat.mul_nonneg (show 0 ≤ R * R by grind) cc
  have o1 := Rat.mul_le_mul_of_nonneg_left one.1 (show 0 ≤ R * R by grind)
  have o2 := Rat.mul_le_mul_of_nonneg_left one.2 (show 0 ≤ R * R by grind)
  have lo : R * R * (93 / 100) ≤ vl L2 := by have := s5.1; grind
  have hi : vl L2 ≤ R * R * (2 : Rat) := by have := s5.2; grind
  obtain ⟨f3, r0, e3⟩ := fsqrt_err f2 (by grind) (big30 (by grind))
  generalize fsqrt L2 = L at *
  have LL1 : R * R * (92 / 100) ≤ vl L * vl L := by have := e3.1; rw [u1] at this; grind
  have LL2 : vl L * vl L ≤ R * R * 3 := by have := e3.2; rw [u1] at this; grind
  have L1 : R * (9 / 10) ≤ vl L := by
    rcases Rat.le_total (a := R * (9 / 10)) (b := vl L) with h | h
    · exact h
    · exfalso
      have := Rat.mul_nonneg (show 0 ≤ R * (9 / 10) - vl L by grind) (show 0 ≤ R * (9 / 10) + vl L by grind)
      grind
  have L2' : vl L ≤ R * 2 := by
    rcases Rat.le_total (a := vl L) (b := R * 2) with h | h
    · exact h
    · exfalso
      have := Rat.mul_nonneg (show 0 ≤ vl L - R * 2 by grind) (show 0 ≤ vl L + R * 2 by grind)
      grind
  have bA : Wn (vl a / vl cTwo) (vl a) := by
    rw [v_two.2]
    constructor <;> grind
  obtain ⟨f4, e4⟩ := divE s.fa v_two.1 (by rw [v_two.2]; grind) _ bA (by grind)
  rw [v_two.2] at e4
  unfold halfP
  rw [s.fa.can, v_two.1.can]
  have h4 := e4.2
  rw [u1] at h4
  exact ⟨(order_gt f3 f4).2 (by grind), (order_lt f3 v_top.1).2 (by rw [v_top.2]; grind)⟩
set_option maxHeartbeats 2000000 in
theorem back_all (s : Snd a f high) (lon : Int) {lat : Int} (h1 : -89000000000 ≤ lat) (h2 : lat ≤ 89000000000) :
    ∃ x y z, VecIs a f lon lat high x y z 0 ∧ Fp.Fin x ∧ Fp.Fin y ∧ Fp.Fin z ∧ D.order (lenP (can x) (can y) (can z)) (halfP a) = some .gt ∧ D.order (lenP (can x) (can y) (can z)) cTop = some .lt ∧
      -1 ≤ apartP (angS (can y) (can x)) lon ∧ apartP (angS (can y) (can x)) lon ≤ 1 ∧ -4 ≤ iterT a f z (rootP x y) 8 - lat ∧ iterT a f z (rootP x y) 8 - lat ≤ 4 ∧ Fp.Fin (highP a f z (rootP x y) (iterT a f z (rootP x y) 8)) ∧ Wn (vl (highP a f z (rootP x y) (iterT a f z (rootP x y) 8)) - vl high) (4 / 1000) := by
  obtain ⟨m0, g, hs, l0, l1, neg⟩ : ∃ (m0 : Int) (g : Rat), Sgn lat m0 g ∧ 0 ≤ m0 ∧ m0 ≤ 89000000000 ∧ (g = -1 → 1 ≤ m0) := by
    rcases Int.lt_or_le lat 0 with h | h
    · exact ⟨-lat, -1, .inr ⟨by omega, rfl⟩, by omega, by omega, fun _ => by omega⟩
    · exact ⟨lat, 1, .inl ⟨rfl, rfl⟩, h, h2, fun h' => by exfalso; grind⟩
  have l2 : m0 ≤ 90000000000 := by omega
  obtain ⟨n, R, rad⟩ := rad_some s hs l0 l2
  obtain ⟨fd, ed⟩ := vecD_near s hs l0 l2 rad
  obtain ⟨fz, ez, pz⟩ := vecZ_near s hs l0 l2 rad
  have a1 := s.a1
  have R1 := rad.R1
  have R2 := rad.R2
  have bc := wn_cI (m := m0) (by omega) l2
  have bR : Wn R R := ⟨by grind, by grind⟩
  have bd : Wn (vl (vecD a f lat high)) (R * (1002 / 1000)) := (wn_add ed (wn_mul bR bc)).of (by grind) (by grind)
  have clo : 1 / 100 ≤ cI m0 := by
    have a : (1000000000 : Rat) ≤ ((90000000000 - m0 : Int) : Rat) := castle (a := 1000000000) (by omega)
    have e : ((90000000000 - m0 : Int) : Rat) = 90000000000 - (m0 : Rat) := by push_cast; rfl
    rw [e] at a
    have r := rho_lo
    have := Rat.mul_le_mul_of_nonneg_right a (Rat.le_of_lt rho_pos)
    rcases cI_ge l0 l2 with h | h <;> grind
  have dlo : 1000 ≤ vl (vecD a f lat high) := by
    have := Rat.mul_le_mul_of_nonneg_left clo (show 0 ≤ R by grind)
    have := ed.1
    grind
  have dhi : vl (vecD a f lat high) ≤ 100000000 := by have := bd.2; grind
  obtain ⟨C0, S0, ⟨fk, ek⟩, ⟨fs, es⟩, one, _⟩ := lon_two lon
  obtain ⟨⟨fx, _⟩, ⟨fy, _⟩, ⟨fS, eS⟩, fP, p0, eP⟩ := root_near fd fk fs dlo dhi ek es one
  have lb := lon_back (lon := lon) fd dlo dhi
  have ok := okG_of s
  have hh := high_of s
  have v := VecIs.ok (lon := lon) ok (show lat ≤ 90000000000 by omega) (show -90000000000 ≤ lat by omega) hh
  rw [fk.can, fs.can] at v
  have eP2 : Wn (vl (rootP (fmul (vecD a f lat high) (cosP lon)) (fmul (vecD a f lat high) (sinP lon))) - R * cI m0) (R * (8 / 100000000000000)) := (wn_add eP ed).of (by grind) (by have := bd.2; grind)
  have V : Vec2 a f high lat m0 g n R (vecZ a f lat high) (rootP (fmul (vecD a f lat high) (cosP lon)) (fmul (vecD a f lat high) (sinP lon))) := ⟨hs, l0, l1, neg, rad, fz, ez, pz, fP, eP2⟩
  obtain ⟨m, ht, m1, m2, d1, d2⟩ := lat_back s V
  obtain ⟨fh, eh⟩ := high_near s V ht m1 m2 d1 d2
  obtain ⟨k1, k2, k3, k4, k5⟩ := vec2_R s V
  have len := len_of s fS fz R1 R2 eS ed ez hs.sq k5 (by grind) (one_I (by omega) l2)
  refine ⟨_, _, _, v, fx, fy, fz, ?_, ?_, ?_, ?_, ?_, ?_, fh, eh⟩
  · rw [fx.can, fy.can, fz.can]; exact len.1
  · rw [fx.can, fy.can, fz.can]; exact len.2
  · rw [fx.can, fy.can]; exact lb.1
  · rw [fx.can, fy.can]; exact lb.2
  · rcases hs with ⟨e1, g1⟩ | ⟨e1, g1⟩ <;> rcases ht with ⟨e2, g2⟩ | ⟨e2, g2⟩
    · omega
    · exfalso; rw [g1] at g2; revert g2; decide
    · exfalso; rw [g1] at g2; revert g2; decide
    · omega
  · rcases hs with ⟨e1, g1⟩ | ⟨e1, g1⟩ <;> rcases ht with ⟨e2, g2⟩ | ⟨e2, g2⟩
    · omega
    · exfalso; rw [g1] at g2; revert g2; decide
    · exfalso; rw [g1] at g2; revert g2; decide
    · omega
end Go.Proofs.YteebbcdbkkliaaaDoor
