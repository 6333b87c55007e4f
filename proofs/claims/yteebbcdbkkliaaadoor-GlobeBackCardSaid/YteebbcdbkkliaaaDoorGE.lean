/- Sine and cosine as floats: how far they are off the polynomials'. -/
import Derived.Test.YteebbcdbkkliaaaDoorGD
namespace Go.Fp.Tri
open Go.Fp Ieee
set_option maxRecDepth 20000

theorem v_k0 : Fin 13818544856648471893 ∧ vl 13818544856648471893 = -6004799503160661 / 36028797018963968 := vl_const (s := true) (m := 6004799503160661) (k := 55) (by decide +kernel) (by decide +kernel)
theorem v_k1 : Fin 4575957461383581969 ∧ vl 4575957461383581969 = 4803839602528529 / 576460752303423488 := vl_const (s := false) (m := 4803839602528529) (k := 59) (by decide +kernel) (by decide +kernel)
theorem v_k2 : Fin 13774824197408792602 ∧ vl 13774824197408792602 = -3660068268593165 / 18446744073709551616 := vl_const (s := true) (m := 7320136537186330) (k := 65) (by decide +kernel) (by decide +kernel)
theorem v_k3 : Fin 4523617214285662004 ∧ vl 4523617214285662004 = 1626697008263629 / 590295810358705651712 := vl_const (s := false) (m := 6506788033054516) (k := 71) (by decide +kernel) (by decide +kernel)
theorem v_k4 : Fin 13716528800881525988 ∧ vl 13716528800881525988 = -1892883791434041 / 75557863725914323419136 := vl_const (s := true) (m := 7571535165736164) (k := 78) (by decide +kernel) (by decide +kernel)
theorem v_k5 : Fin 4460272573143870729 ∧ vl 4460272573143870729 = 6212541674450185 / 38685626227668133590597632 := vl_const (s := false) (m := 6212541674450185) (k := 85) (by decide +kernel) (by decide +kernel)
theorem v_k6 : Fin 13648976655441704991 ∧ vl 13648976655441704991 = -7573384136472607 / 9903520314283042199192993792 := vl_const (s := true) (m := 7573384136472607) (k := 93) (by decide +kernel) (by decide +kernel)
theorem v_k7 : Fin 4389130328383466826 ∧ vl 4389130328383466826 = 3563945475987109 / 1267650600228229401496703205376 := vl_const (s := false) (m := 7127890951974218) (k := 101) (by decide +kernel) (by decide +kernel)
theorem v_d0 : Fin 13826050856027422720 ∧ vl 13826050856027422720 = -1 / 2 := vl_const (s := true) (m := 4503599627370496) (k := 53) (by decide +kernel) (by decide +kernel)
theorem v_d1 : Fin 4586165620538955093 ∧ vl 4586165620538955093 = 6004799503160661 / 144115188075855872 := vl_const (s := false) (m := 6004799503160661) (k := 57) (by decide +kernel) (by decide +kernel)
theorem v_d2 : Fin 13787419979223755799 ∧ vl 13787419979223755799 = -6405119470038039 / 4611686018427387904 := vl_const (s := true) (m := 6405119470038039) (k := 62) (by decide +kernel) (by decide +kernel)
theorem v_d3 : Fin 4537941361671905306 ∧ vl 4537941361671905306 = 3660068268593165 / 147573952589676412928 := vl_const (s := false) (m := 7320136537186330) (k := 68) (by decide +kernel) (by decide +kernel)
theorem v_d4 : Fin 13732177094651715420 ∧ vl 13732177094651715420 = -1301357606610903 / 4722366482869645213696 := vl_const (s := true) (m := 5205430426443612) (k := 74) (by decide +kernel) (by decide +kernel)
theorem v_d5 : Fin 4477122120089393304 ∧ vl 4477122120089393304 = 630961263811347 / 302231454903657293676544 := vl_const (s := false) (m := 5047690110490776) (k := 81) (by decide +kernel) (by decide +kernel)
theorem v_d6 : Fin 13666517717442657437 ∧ vl 13666517717442657437 = -7100047627943069 / 618970019642690137449562112 := vl_const (s := true) (m := 7100047627943069) (k := 89) (by decide +kernel) (by decide +kernel)
theorem v_d7 : Fin 4407590220077447199 ∧ vl 4407590220077447199 = 7573384136472607 / 158456325028528675187087900672 := vl_const (s := false) (m := 7573384136472607) (k := 97) (by decide +kernel) (by decide +kernel)
theorem v_rad : Fin RAD ∧ vl RAD = rho := vl_const (s := false) (m := 5401532406949459) (k := 88) (by decide +kernel) (by decide +kernel)
theorem v_1 : Fin one ∧ vl one = 1 := vl_const (s := false) (m := 4503599627370496) (k := 52) (by decide +kernel) (by decide +kernel)
/-- the coefficients as the program rounds them, and what they ought to be -/
def kV : List Rat := [-6004799503160661 / 36028797018963968, 4803839602528529 / 576460752303423488, -3660068268593165 / 18446744073709551616, 1626697008263629 / 590295810358705651712, -1892883791434041 / 75557863725914323419136, 6212541674450185 / 38685626227668133590597632, -7573384136472607 / 9903520314283042199192993792, 3563945475987109 / 1267650600228229401496703205376]
def dV : List Rat := [-1 / 2, 6004799503160661 / 144115188075855872, -6405119470038039 / 4611686018427387904, 3660068268593165 / 147573952589676412928, -1301357606610903 / 4722366482869645213696, 630961263811347 / 302231454903657293676544, -7100047627943069 / 618970019642690137449562112, 7573384136472607 / 158456325028528675187087900672]
def kE : List Rat := [-inv 3, inv 5, -inv 7, inv 9, -inv 11, inv 13, -inv 15, inv 17]
def dE : List Rat := [-inv 2, inv 4, -inv 6, inv 8, -inv 10, inv 12, -inv 14, inv 16]
theorem kk_V : KK.map vl = kV := by
  unfold KK kV
  simp only [List.map_cons, List.map_nil, v_k0.2, v_k1.2, v_k2.2, v_k3.2, v_k4.2, v_k5.2, v_k6.2, v_k7.2]
theorem dd_V : DD.map vl = dV := by
  unfold DD dV
  simp only [List.map_cons, List.map_nil, v_d0.2, v_d1.2, v_d2.2, v_d3.2, v_d4.2, v_d5.2, v_d6.2, v_d7.2]
theorem kk_fin : ∀ c ∈ KK, Fin c ∧ Wn (vl c) (1 / 2) := by
  intro c hc
  unfold KK at hc
  simp only [List.mem_cons, List.not_mem_nil, or_false] at hc
  rcases hc with rfl | rfl | rfl | rfl | rfl | rfl | rfl | rfl
  · exact ⟨v_k0.1, by rw [v_k0.2]; constructor <;> grind⟩
  · exact ⟨v_k1.1, by rw [v_k1.2]; constructor <;> grind⟩
  · exact ⟨v_k2.1, by rw [v_k2.2]; constructor <;> grind⟩
  · exact ⟨v_k3.1, by rw [v_k3.2]; constructor <;> grind⟩
  · exact ⟨v_k4.1, by rw [v_k4.2]; constructor <;> grind⟩
  · exact ⟨v_k5.1, by rw [v_k5.2]; constructor <;> grind⟩
  · exact ⟨v_k6.1, by rw [v_k6.2]; constructor <;> grind⟩
  · exact ⟨v_k7.1, by rw [v_k7.2]; constructor <;> grind⟩
theorem dd_fin : ∀ c ∈ DD, Fin c ∧ Wn (vl c) (1 / 2) := by
  intro c hc
  unfold DD at hc
  simp only [List.mem_cons, List.not_mem_nil, or_false] at hc
  rcases hc with rfl | rfl | rfl | rfl | rfl | rfl | rfl | rfl
  · exact ⟨v_d0.1, by rw [v_d0.2]; constructor <;> grind⟩
  · exact ⟨v_d1.1, by rw [v_d1.2]; constructor <;> grind⟩
  · exact ⟨v_d2.1, by rw [v_d2.2]; constructor <;> grind⟩
  · exact ⟨v_d3.1, by rw [v_d3.2]; constructor <;> grind⟩
  · exact ⟨v_d4.1, by rw [v_d4.2]; constructor <;> grind⟩
  · exact ⟨v_d5.1, by rw [v_d5.2]; constructor <;> grind⟩
  · exact ⟨v_d6.1, by rw [v_d6.2]; constructor <;> grind⟩
  · exact ⟨v_d7.1, by rw [v_d7.2]; constructor <;> grind⟩
theorem k_diff : pbd (padd kV (pneg kE)) (62 / 100) ≤ 1 / 10000000000000000 := by decide +kernel
theorem d_diff : pbd (padd dV (pneg dE)) (62 / 100) ≤ 1 / 10000000000000000 := by decide +kernel
theorem k_lip : plip kE (62 / 100) ≤ 1 / 10 := by decide +kernel
theorem d_lip : plip dE (62 / 100) ≤ 1 / 10 := by decide +kernel
theorem k_bd : pbd kE (62 / 100) ≤ 2 / 10 := by decide +kernel
theorem d_bd : pbd dE (62 / 100) ≤ 6 / 10 := by decide +kernel
theorem pev_neg (p : List Rat) (y : Rat) : pev (pneg p) y = - pev p y := by unfold pneg; rw [pev_scale]; grind
/-- the walk down the coefficients -/
theorem hor_err {z : Nat} (hz : Fin z) (bz : Wn (vl z) (62 / 100)) : ∀ l : List Nat, l ≠ [] → (∀ c ∈ l, Fin c ∧ Wn (vl c) (1 / 2)) →
    Fin (hor z l) ∧ Wn (vl (hor z l) - pev (l.map vl) (vl z)) (14 * uu) ∧ Wn (pev (l.map vl) (vl z)) (132 / 100)
  | [], h, _ => absurd rfl h
  | [c], _, hl => by
    obtain ⟨h1, h2⟩ := hl c (by simp)
    have e : pev ([c].map vl) (vl z) = vl c := by simp only [List.map_cons, List.map_nil, pev]; grind
    rw [e]
    refine ⟨h1, ?_, h2.mono (by grind)⟩
    have := uu_pos
    show Wn (vl c - vl c) _
    constructor <;> grind
  | c :: d :: r, _, hl => by
    obtain ⟨i1, i2, i3⟩ := hor_err hz bz (d :: r) (by simp) (fun x hx => hl x (List.mem_cons_of_mem _ hx))
    obtain ⟨h1, h2⟩ := hl c (by simp)
    have e : pev ((c :: d :: r).map vl) (vl z) = vl c + vl z * pev ((d :: r).map vl) (vl z) := rfl
    rw [e]
    show Fin (fadd c (fmul z (hor z (d :: r)))) ∧ Wn (vl (fadd c (fmul z (hor z (d :: r)))) - _) _ ∧ _
    generalize hor z (d :: r) = H at *
    generalize pev ((d :: r).map vl) (vl z) = P at *
    have u1 : uu ≤ 1 / 1000000 := by rw [uu_eq]; grind
    have u0 := uu_pos
    have bH : Wn (vl H) (133 / 100) := (wn_add i2 i3).of (by grind) (by grind)
    have b1 : Wn (vl z * vl H) (83 / 100) := (wn_mul bz bH).mono (by grind)
    obtain ⟨f1, e1⟩ := mulE hz i1 _ b1 (by grind)
    have b2 : Wn (vl (fmul z H)) (84 / 100) := (wn_add e1 b1).of (by grind) (by grind)
    have b3 : Wn (vl c + vl (fmul z H)) (134 / 100) := (wn_add h2 b2).mono (by grind)
    obtain ⟨f2, e2⟩ := addE h1 f1 _ b3 (by grind)
    have e3 := wn_mul bz i2
    have b4 := wn_mul bz i3
    refine ⟨f2, ?_, ?_⟩
    · obtain ⟨_, _⟩ := e1
      obtain ⟨_, _⟩ := e2
      obtain ⟨_, _⟩ := e3
      constructor <;> grind
    · exact (wn_add h2 b4).mono (by grind)
theorem S_hor (x : Rat) : S x = x * (1 + x * x * pev kE (x * x)) := by simp only [S, PS, kE, pev]; grind
theorem C_hor (x : Rat) : C x = 1 + x * x * pev dE (x * x) := by simp only [C, PC, dE, pev]; grind
theorem poly_err {v e : List Rat} {z y D : Rat} (hz : Wn z (62 / 100)) (hy : Wn y (62 / 100)) (hd : Wn (z - y) D) (h1 : pbd (padd v (pneg e)) (62 / 100) ≤ 1 / 10000000000000000) (h2 : plip e (62 / 100) ≤ 1 / 10) :
    Wn (pev v z - pev e y) (1 / 10000000000000000 + D * (1 / 10)) := by
  have a1 := (wn_pev (padd v (pneg e)) hz).mono h1
  rw [pev_add, pev_neg] at a1
  have a2 := (wn_lip e hz hy hd).mono (Rat.mul_le_mul_of_nonneg_left h2 hd.nonneg)
  exact (wn_add a1 a2).of (by grind) (by grind)
/-- sine and cosine of what is left over of a quarter -/
theorem sc_err {r : Int} (h1 : -45000000000 ≤ r) (h2 : r ≤ 45000000000) (x z s c : Nat) (hx : x = fmul (floatOfInt .f64 r) RAD) (hz : z = fmul x x)
    (hs : s = fmul x (fadd one (fmul z (hor z KK)))) (hc : c = fadd one (fmul z (hor z DD))) :
    (Fin s ∧ Wn (vl s - S ((r : Rat) * rho)) (1 / 100000000000000)) ∧ (Fin c ∧ Wn (vl c - C ((r : Rat) * rho)) (1 / 100000000000000)) := by
  obtain ⟨i1, i2⟩ := vl_int r (by omega)
  have hb := arg_bd h1 h2
  have u1 : uu = 1 / 9007199254740992 := uu_eq
  obtain ⟨fx, ex⟩ := mulE i1 v_rad.1 (7855 / 10000) (by rw [i2, v_rad.2]; exact hb) (by grind)
  rw [i2, v_rad.2, ← hx] at ex
  rw [← hx] at fx
  have S0 := S_hor ((r : Rat) * rho)
  have C0 := C_hor ((r : Rat) * rho)
  generalize S ((r : Rat) * rho) = Sv at *
  generalize C ((r : Rat) * rho) = Cv at *
  generalize (r : Rat) * rho = y at *
  have bx : Wn (vl x) (78551 / 100000) := (wn_add ex hb).of (by grind) (by (try rw [u1]); grind)
  have bxx : Wn (vl x * vl x) (61703 / 100000) := (wn_mul bx bx).mono (by grind)
  obtain ⟨fz, ez⟩ := mulE fx fx _ bxx (by grind)
  rw [← hz] at fz ez
  have bz : Wn (vl z) (62 / 100) := (wn_add ez bxx).of (by grind) (by (try rw [u1]); grind)
  have byy : Wn (y * y) (62 / 100) := (wn_mul hb hb).mono (by grind)
  have edd := wn_mul ex (show Wn (vl x + y) (1572 / 1000) from (wn_add bx hb).mono (by grind))
  have eD : Wn (vl z - y * y) (5 * uu) := (wn_add ez edd).of (by grind) (by (try rw [u1]); grind)
  obtain ⟨k1, k2, k3⟩ := hor_err fz bz KK (by decide) kk_fin
  obtain ⟨d1, d2, d3⟩ := hor_err fz bz DD (by decide) dd_fin
  rw [kk_V] at k2 k3
  rw [dd_V] at d2 d3
  have kp := poly_err bz byy eD k_diff k_lip
  have dp := poly_err bz byy eD d_diff d_lip
  have kb := (wn_pev kE byy).mono k_bd
  have db := (wn_pev dE byy).mono d_bd
  generalize hor z KK = hk at *
  generalize hor z DD = hd at *
  generalize pev kV (vl z) = kv at *
  generalize pev dV (vl z) = dv at *
  generalize pev kE (y * y) = ke at *
  generalize pev dE (y * y) = de at *
  have ek : Wn (vl hk - ke) (1 / 400000000000000) := (wn_add k2 kp).of (by grind) (by (try rw [u1]); grind)
  have ed : Wn (vl hd - de) (1 / 400000000000000) := (wn_add d2 dp).of (by grind) (by (try rw [u1]); grind)
  have bk : Wn (vl hk) (21 / 100) := (wn_add ek kb).of (by grind) (by (try rw [u1]); grind)
  have bd : Wn (vl hd) (61 / 100) := (wn_add ed db).of (by grind) (by (try rw [u1]); grind)
  generalize y * y = yy at *
  -- z times that
  obtain ⟨f1, e1⟩ := mulE fz k1 _ (wn_mul bz bk) (by grind)
  obtain ⟨g1, l1⟩ := mulE fz d1 _ (wn_mul bz bd) (by grind)
  have m1 : Wn (vl z * vl hk - yy * ke) (1 / 500000000000000) := (wn_add (wn_mul bz ek) (wn_mul eD kb)).of (by grind) (by (try rw [u1]); grind)
  have m2 : Wn (vl z * vl hd - yy * de) (1 / 500000000000000) := (wn_add (wn_mul bz ed) (wn_mul eD db)).of (by grind) (by (try rw [u1]); grind)
  have q1 : Wn (vl (fmul z hk) - yy * ke) (1 / 400000000000000) := (wn_add e1 m1).of (by grind) (by (try rw [u1]); grind)
  have q2 : Wn (vl (fmul z hd) - yy * de) (1 / 400000000000000) := (wn_add l1 m2).of (by grind) (by (try rw [u1]); grind)
  have p1 := (wn_mul byy kb)
  have p2 := (wn_mul byy db)
  have bq1 : Wn (vl (fmul z hk)) (13 / 100) := (wn_add q1 p1).of (by grind) (by (try rw [u1]); grind)
  have bq2 : Wn (vl (fmul z hd)) (38 / 100) := (wn_add q2 p2).of (by grind) (by (try rw [u1]); grind)
  have b1 : Wn (vl one) 1 := by rw [v_1.2]; constructor <;> grind
  obtain ⟨f2, e2⟩ := addE v_1.1 f1 _ (wn_add b1 bq1) (by grind)
  obtain ⟨g2, l2⟩ := addE v_1.1 g1 _ (wn_add b1 bq2) (by grind)
  rw [v_1.2] at e2 l2
  have r1 : Wn (vl (fadd one (fmul z hk)) - (1 + yy * ke)) (1 / 300000000000000) := (wn_add e2 q1).of (by grind) (by (try rw [u1]); grind)
  have r2 : Wn (vl (fadd one (fmul z hd)) - (1 + yy * de)) (1 / 300000000000000) := (wn_add l2 q2).of (by grind) (by (try rw [u1]); grind)
  have br : Wn (1 + yy * ke) (113 / 100) := (wn_add (show Wn (1 : Rat) 1 from ⟨by grind, by grind⟩) p1).mono (by grind)
  have br2 : Wn (vl (fadd one (fmul z hk))) (114 / 100) := (wn_add r1 br).of (by grind) (by (try rw [u1]); grind)
  obtain ⟨f3, e3⟩ := mulE fx f2 _ (wn_mul bx br2) (by grind)
  rw [← hs] at f3 e3
  rw [← hc] at g2 r2
  refine ⟨⟨f3, ?_⟩, ⟨g2, ?_⟩⟩
  · have t1 := wn_add (wn_mul bx r1) (wn_mul ex br)
    rw [S0]
    exact (wn_add e3 t1).of (by grind) (by (try rw [u1]); grind)
  · rw [C0]
    exact r2.mono (by grind)
end Go.Fp.Tri
