/- The numbers of a series: what they are. -/
import Derived.Test.YtcppgbhjbmfldaaDoorZP
namespace Go.Proofs.YtcppgbhjbmfldaaDoor
open Go.RowKit Go.Fp Go.Rel
set_option maxRecDepth 20000

abbrev cA1 : List Nat := [4602678819172646912, 13827552055903212885, 4599301119452119040, 4597374579611521661]
abbrev cA2 : List Nat := [4598550519514223957, 13826951575952896819, 4600639689341365271]
abbrev cA3 : List Nat := [4598250279539065924, 13828173981566040240]
abbrev cA4 : Nat := 4599207406156301484
abbrev cB1 : List Nat := [4602678819172646912, 13827552055903212885, 4600614669343435435, 13791923578851126295]
abbrev cB2 : List Nat := [4581662020911584597, 4589468260265693457, 13822510526320350913]
abbrev cB3 : List Nat := [4585264900613480994, 13809880788793911511]
abbrev cB4 : Nat := 4583515287901101742
def tabA (n : Nat) : List Nat := if n = 4 then cA1 else if n = 3 then cA2 else cA3
def tabB (n : Nat) : List Nat := if n = 4 then cB1 else if n = 3 then cB2 else cB3
def SpPoly (N : Nat) (T : Nat → List Nat) (args : Array Value) (v : Value) : Prop := ∃ (g n c : Nat) (p : Value), args = #[.slice (some ⟨g, 0, none⟩) n c, p] ∧ isFl (polyS N (T n) (n - 1)) v
theorem spPoly_iff (N : Nat) (T : Nat → List Nat) (g n c : Nat) (p v : Value) : SpPoly N T #[.slice (some ⟨g, 0, none⟩) n c, p] v ↔ isFl (polyS N (T n) (n - 1)) v := by
  unfold SpPoly
  exact ⟨fun ⟨_, _, _, _, h, k⟩ => by simp at h; obtain ⟨⟨rfl, rfl, rfl⟩, rfl⟩ := h; exact k, fun h => ⟨_, _, _, _, rfl, h⟩⟩
theorem relD_fl {P : Program} {F : FuncId → Array Value → Value → Prop} {R : Value → World → Prop} {W : World} {K : Value → Prop} {t : TypeId} {op : BinOp} {x y : Nat} (hop : isArith op = true)
    (h : ∀ r, can r = fbin op (can x) (can y) → K (.float .f64 r)) (hR : ∀ r w, R (.float .f64 r) w) : relUponD P F R W K (((binOp op t (.float .f64 x) (.float .f64 y)).run P W).andThen fun v w' => .ok (.value v) w') := by
  obtain ⟨r, n, e, hr⟩ := run_fl (P := P) W hop x y t
  rw [e]
  exact ⟨(Ext.refl _).drewN _, hR _ _, h r hr⟩
theorem relD_call {P : Program} {F : FuncId → Array Value → Value → Prop} {R : Value → World → Prop} {W : World} {K : Value → Prop} {f : FuncId} {args : Array Value} {S : Value → Prop}
    (hc : Calls P f args W (fun e w' => ∃ v, e = .returned v ∧ S v ∧ Ext W w')) (hF : ∀ v, S v ↔ F f args v) (hR : ∀ v w, S v → R v w) (h : ∀ v, S v → K v) : relUponD P F R W K (.ok (.enter f args) W) :=
  ⟨Ext.refl _, hc.mono fun _ _ ⟨v, he, hS, hx⟩ => ⟨v, he, (hF v).1 hS, hR _ _ hS, hx⟩, fun v hv => h v ((hF v).2 hv)⟩

/-- the third flattening, and its powers -/
def nS (f : Nat) : Nat := fdiv (can f) (fsub (can 4611686018427387904) (can f))
def n2S (f : Nat) : Nat := fmul (nS f) (nS f)
def n3S (f : Nat) : Nat := fmul (n2S f) (nS f)
def n4S (f : Nat) : Nat := fmul (n2S f) (n2S f)
/-- the radius of the series, and both its rows -/
def radS (a f : Nat) : Nat := fmul (fdiv (can a) (fadd (can 4607182418800017408) (nS f))) (fadd (fadd (can 4607182418800017408) (fdiv (n2S f) (can 4616189618054758400))) (fdiv (n4S f) (can 4634204016564240384)))
def rowS (T : Nat → List Nat) (c f : Nat) : Nat → Nat
  | 0 => fmul (nS f) (polyS (nS f) (T 4) 3)
  | 1 => fmul (n2S f) (polyS (nS f) (T 3) 2)
  | 2 => fmul (n3S f) (polyS (nS f) (T 2) 1)
  | _ => fmul (n4S f) (can c)
def SerR (a f : Nat) (w : World) (e : Ending) (w' : World) : Prop := ∃ r y0 y1 y2 y3 x0 x1 x2 x3, e = .returned (.tuple #[.float .f64 r, .agg #[.float .f64 y0, .float .f64 y1, .float .f64 y2, .float .f64 y3], .agg #[.float .f64 x0, .float .f64 x1, .float .f64 x2, .float .f64 x3], .nilIface]) ∧ can r = radS a f ∧
  (can y0 = rowS tabA cA4 f 0 ∧ can y1 = rowS tabA cA4 f 1 ∧ can y2 = rowS tabA cA4 f 2 ∧ can y3 = rowS tabA cA4 f 3) ∧ (can x0 = rowS tabB cB4 f 0 ∧ can x1 = rowS tabB cB4 f 1 ∧ can x2 = rowS tabB cB4 f 2 ∧ can x3 = rowS tabB cB4 f 3) ∧ Ext w w'

end Go.Proofs.YtcppgbhjbmfldaaDoor

/- The series' numbers as floats, against the rational ones. Printed by gen_rows.py. -/
namespace Go.Proofs.YtcppgbhjbmfldaaDoor
open Go.Fp Go.Fp.Tri
set_option maxRecDepth 20000

/-- a float near a number -/
def Nr (x : Nat) (v e : Rat) : Prop := Fp.Fin x ∧ Wn (vl x - v) e
theorem Nr.mono {x : Nat} {v e d : Rat} (h : Nr x v e) (k : e ≤ d) : Nr x v d := ⟨h.1, h.2.mono k⟩
theorem Nr.can {x : Nat} {v e : Rat} (h : Nr x v e) : Fp.can x = x := h.1.can
theorem horn {c n p : Nat} {C N P : Rat} (hc : Nr c C (1 / 10000000000000000)) (hn : Nr n N (2 / 10000000000000000)) (hp : Nr p P (1 / 1000000000000000)) (bC : Wn C (3 / 4)) (bN : Wn N (6 / 1000)) (bP : Wn P (77 / 100)) :
    Nr (fadd (Fp.can c) (fmul n p)) (C + N * P) (1 / 1000000000000000) ∧ Wn (C + N * P) (77 / 100) := by
  have u1 : uu = 1 / 9007199254740992 := uu_eq
  have t := wn_mul bN bP
  have bn : Wn (vl n) (7 / 1000) := (wn_add hn.2 bN).of (by grind) (by grind)
  have bp : Wn (vl p) (78 / 100) := (wn_add hp.2 bP).of (by grind) (by grind)
  have m := wn_add (wn_mul hn.2 bp) (wn_mul bN hp.2)
  obtain ⟨f1, e1⟩ := mulE hn.1 hp.1 _ (wn_mul bn bp) (by grind)
  rw [hc.can]
  have bc : Wn (vl c) (76 / 100) := (wn_add hc.2 bC).of (by grind) (by grind)
  have bm : Wn (vl (fmul n p)) (1 / 100) := (wn_add e1 (wn_mul bn bp)).of (by grind) (by rw [u1]; grind)
  obtain ⟨f2, e2⟩ := addE hc.1 f1 _ (wn_add bc bm) (by grind)
  refine ⟨⟨f2, ?_⟩, ?_⟩
  · refine (wn_add (wn_add e2 hc.2) (wn_add e1 m)).of (by grind) (by rw [u1]; grind)
  · obtain ⟨_, _⟩ := t
    obtain ⟨_, _⟩ := bC
    constructor <;> grind
theorem times_near {x y : Nat} {X Y e d : Rat} (hx : Nr x X e) (hy : Nr y Y d) (bX : Wn X (6 / 1000)) (bY : Wn Y (77 / 100)) (he : e ≤ 4 / 10000000000000000) (hd : d ≤ 1 / 1000000000000000) : Nr (fmul x y) (X * Y) (1 / 1000000000000000) := by
  have u1 : uu = 1 / 9007199254740992 := uu_eq
  have hx' := hx.2.mono he
  have hy' := hy.2.mono hd
  have bx : Wn (vl x) (7 / 1000) := (wn_add hx' bX).of (by grind) (by grind)
  have bY2 : Wn (vl y) (78 / 100) := (wn_add hy' bY).of (by grind) (by grind)
  obtain ⟨f1, e1⟩ := mulE hx.1 hy.1 _ (wn_mul bx bY2) (by grind)
  refine ⟨f1, (wn_add e1 (wn_add (wn_mul hx' bY2) (wn_mul bX hy'))).of (by grind) (by rw [u1]; grind)⟩
theorem times_small {x y : Nat} {X Y : Rat} (hx : Nr x X (2 / 10000000000000000)) (hy : Nr y Y (2 / 10000000000000000)) (bX : Wn X (6 / 1000)) (bY : Wn Y (6 / 1000)) : Nr (fmul x y) (X * Y) (2 / 10000000000000000) := by
  have u1 : uu = 1 / 9007199254740992 := uu_eq
  have bx : Wn (vl x) (7 / 1000) := (wn_add hx.2 bX).of (by grind) (by grind)
  have bY2 : Wn (vl y) (7 / 1000) := (wn_add hy.2 bY).of (by grind) (by grind)
  obtain ⟨f1, e1⟩ := mulE hx.1 hy.1 _ (wn_mul bx bY2) (by grind)
  refine ⟨f1, (wn_add e1 (wn_add (wn_mul hx.2 bY2) (wn_mul bX hy.2))).of (by grind) (by rw [u1]; grind)⟩
/-- the third flattening -/
def nQ (f : Nat) : Rat := vl f / (2 - vl f)
theorem nQ_eq {f : Nat} (_h0 : 0 ≤ vl f) (h1 : vl f ≤ 10001 / 1000000) : nQ f * (2 - vl f) = vl f := by unfold nQ; exact div_mul_c (ne_of_pos (by grind)) rfl
theorem nQ_bd {f : Nat} (h0 : 0 ≤ vl f) (h1 : vl f ≤ 10001 / 1000000) : 0 ≤ nQ f ∧ nQ f ≤ 5026 / 1000000 ∧ (vl f ≤ 40001 / 10000000 → nQ f ≤ 2005 / 1000000) := by
  have e := nQ_eq h0 h1
  generalize nQ f = n at *
  have hp : 0 < 2 - vl f := by grind
  refine ⟨?_, ?_, fun h => ?_⟩
  · refine le_of_scaled hp ?_; grind
  · refine le_of_scaled hp ?_; grind
  · refine le_of_scaled hp ?_; grind
theorem nS_near {f : Nat} (ff : Fp.Fin f) (h0 : 0 ≤ vl f) (h1 : vl f ≤ 10001 / 1000000) : Nr (nS f) (nQ f) (2 / 10000000000000000) := by
  have u1 : uu = 1 / 9007199254740992 := uu_eq
  have e := nQ_eq h0 h1
  obtain ⟨b0, b1, _⟩ := nQ_bd h0 h1
  unfold nS
  rw [ff.can, v_two.1.can]
  obtain ⟨f1, e1⟩ := subE v_two.1 ff 2 (by rw [v_two.2]; constructor <;> grind) (by grind)
  rw [v_two.2] at e1
  obtain ⟨p1, p2⟩ := e1
  rw [u1] at p1 p2
  have d0 : 0 < vl (fsub 4611686018427387904 f) := by grind
  have q : Wn (vl f / vl (fsub 4611686018427387904 f) - nQ f) (1 / 100000000000000000) := by
    refine wn_quot (c := vl (fsub 4611686018427387904 f)) (c0 := 19 / 10) (by grind) (by grind) ?_
    have e2 : (vl f / vl (fsub 4611686018427387904 f) - nQ f) * vl (fsub 4611686018427387904 f) = vl f / vl (fsub 4611686018427387904 f) * vl (fsub 4611686018427387904 f) - nQ f * vl (fsub 4611686018427387904 f) := by grind
    rw [e2, div_mul_c (ne_of_pos d0) rfl]
    have hm := wn_mul (show Wn (nQ f) (6 / 1000) from ⟨by grind, by grind⟩) (show Wn (vl (fsub 4611686018427387904 f) - (2 - vl f)) (1 / 1000000000000000) from ⟨by grind, by grind⟩)
    obtain ⟨m1, m2⟩ := hm
    constructor <;> grind
  obtain ⟨f2, e3⟩ := divE ff f1 (ne_of_pos d0) (6 / 1000) ((wn_add q (show Wn (nQ f) (5026 / 1000000) from ⟨by grind, b1⟩)).of (by grind) (by grind)) (by grind)
  exact ⟨f2, (wn_add e3 q).of (by grind) (by rw [u1]; grind)⟩
theorem kA10 : Nr 4602678819172646912 (1 / 2) (1 / 10000000000000000) := by
  have h : Fp.Fin 4602678819172646912 ∧ vl 4602678819172646912 = 1 / 2 := vl_const (s := false) (m := 4503599627370496) (k := 53) (by decide +kernel) (by decide +kernel)
  exact ⟨h.1, by rw [h.2]; constructor <;> grind⟩
theorem kA11 : Nr 13827552055903212885 (-(2 / 3)) (1 / 10000000000000000) := by
  have h : Fp.Fin 13827552055903212885 ∧ vl 13827552055903212885 = -(6004799503160661 / 9007199254740992) := vl_const (s := true) (m := 6004799503160661) (k := 53) (by decide +kernel) (by decide +kernel)
  exact ⟨h.1, by rw [h.2]; constructor <;> grind⟩
theorem kA12 : Nr 4599301119452119040 (5 / 16) (1 / 10000000000000000) := by
  have h : Fp.Fin 4599301119452119040 ∧ vl 4599301119452119040 = 5 / 16 := vl_const (s := false) (m := 5629499534213120) (k := 54) (by decide +kernel) (by decide +kernel)
  exact ⟨h.1, by rw [h.2]; constructor <;> grind⟩
theorem kA13 : Nr 4597374579611521661 (41 / 180) (1 / 10000000000000000) := by
  have h : Fp.Fin 4597374579611521661 ∧ vl 4597374579611521661 = 8206559320986237 / 36028797018963968 := vl_const (s := false) (m := 8206559320986237) (k := 55) (by decide +kernel) (by decide +kernel)
  exact ⟨h.1, by rw [h.2]; constructor <;> grind⟩
theorem kA20 : Nr 4598550519514223957 (13 / 48) (1 / 10000000000000000) := by
  have h : Fp.Fin 4598550519514223957 ∧ vl 4598550519514223957 = 4878899596318037 / 18014398509481984 := vl_const (s := false) (m := 4878899596318037) (k := 54) (by decide +kernel) (by decide +kernel)
  exact ⟨h.1, by rw [h.2]; constructor <;> grind⟩
theorem kA21 : Nr 13826951575952896819 (-(3 / 5)) (1 / 10000000000000000) := by
  have h : Fp.Fin 13826951575952896819 ∧ vl 13826951575952896819 = -(5404319552844595 / 9007199254740992) := vl_const (s := true) (m := 5404319552844595) (k := 53) (by decide +kernel) (by decide +kernel)
  exact ⟨h.1, by rw [h.2]; constructor <;> grind⟩
theorem kA22 : Nr 4600639689341365271 (557 / 1440) (1 / 10000000000000000) := by
  have h : Fp.Fin 4600639689341365271 ∧ vl 4600639689341365271 = 6968069423459351 / 18014398509481984 := vl_const (s := false) (m := 6968069423459351) (k := 54) (by decide +kernel) (by decide +kernel)
  exact ⟨h.1, by rw [h.2]; constructor <;> grind⟩
theorem kA30 : Nr 4598250279539065924 (61 / 240) (1 / 10000000000000000) := by
  have h : Fp.Fin 4598250279539065924 ∧ vl 4598250279539065924 = 1144664905290001 / 4503599627370496 := vl_const (s := false) (m := 4578659621160004) (k := 54) (by decide +kernel) (by decide +kernel)
  exact ⟨h.1, by rw [h.2]; constructor <;> grind⟩
theorem kA31 : Nr 13828173981566040240 (-(103 / 140)) (1 / 10000000000000000) := by
  have h : Fp.Fin 13828173981566040240 ∧ vl 13828173981566040240 = -(414170322874251 / 562949953421312) := vl_const (s := true) (m := 6626725165988016) (k := 53) (by decide +kernel) (by decide +kernel)
  exact ⟨h.1, by rw [h.2]; constructor <;> grind⟩
theorem kA40 : Nr 4599207406156301484 (49561 / 161280) (1 / 10000000000000000) := by
  have h : Fp.Fin 4599207406156301484 ∧ vl 4599207406156301484 = 1383946559598891 / 4503599627370496 := vl_const (s := false) (m := 5535786238395564) (k := 54) (by decide +kernel) (by decide +kernel)
  exact ⟨h.1, by rw [h.2]; constructor <;> grind⟩
theorem kB10 : Nr 4602678819172646912 (1 / 2) (1 / 10000000000000000) := by
  have h : Fp.Fin 4602678819172646912 ∧ vl 4602678819172646912 = 1 / 2 := vl_const (s := false) (m := 4503599627370496) (k := 53) (by decide +kernel) (by decide +kernel)
  exact ⟨h.1, by rw [h.2]; constructor <;> grind⟩
theorem kB11 : Nr 13827552055903212885 (-(2 / 3)) (1 / 10000000000000000) := by
  have h : Fp.Fin 13827552055903212885 ∧ vl 13827552055903212885 = -(6004799503160661 / 9007199254740992) := vl_const (s := true) (m := 6004799503160661) (k := 53) (by decide +kernel) (by decide +kernel)
  exact ⟨h.1, by rw [h.2]; constructor <;> grind⟩
theorem kB12 : Nr 4600614669343435435 (37 / 96) (1 / 10000000000000000) := by
  have h : Fp.Fin 4600614669343435435 ∧ vl 4600614669343435435 = 6943049425529515 / 18014398509481984 := vl_const (s := false) (m := 6943049425529515) (k := 54) (by decide +kernel) (by decide +kernel)
  exact ⟨h.1, by rw [h.2]; constructor <;> grind⟩
theorem kB13 : Nr 13791923578851126295 (-(1 / 360)) (1 / 10000000000000000) := by
  have h : Fp.Fin 13791923578851126295 ∧ vl 13791923578851126295 = -(6405119470038039 / 2305843009213693952) := vl_const (s := true) (m := 6405119470038039) (k := 61) (by decide +kernel) (by decide +kernel)
  exact ⟨h.1, by rw [h.2]; constructor <;> grind⟩
theorem kB20 : Nr 4581662020911584597 (1 / 48) (1 / 10000000000000000) := by
  have h : Fp.Fin 4581662020911584597 ∧ vl 4581662020911584597 = 6004799503160661 / 288230376151711744 := vl_const (s := false) (m := 6004799503160661) (k := 58) (by decide +kernel) (by decide +kernel)
  exact ⟨h.1, by rw [h.2]; constructor <;> grind⟩
theorem kB21 : Nr 4589468260265693457 (1 / 15) (1 / 10000000000000000) := by
  have h : Fp.Fin 4589468260265693457 ∧ vl 4589468260265693457 = 4803839602528529 / 72057594037927936 := vl_const (s := false) (m := 4803839602528529) (k := 56) (by decide +kernel) (by decide +kernel)
  exact ⟨h.1, by rw [h.2]; constructor <;> grind⟩
theorem kB22 : Nr 13822510526320350913 (-(437 / 1440)) (1 / 10000000000000000) := by
  have h : Fp.Fin 13822510526320350913 ∧ vl 13822510526320350913 = -(5466869547669185 / 18014398509481984) := vl_const (s := true) (m := 5466869547669185) (k := 54) (by decide +kernel) (by decide +kernel)
  exact ⟨h.1, by rw [h.2]; constructor <;> grind⟩
theorem kB30 : Nr 4585264900613480994 (17 / 480) (1 / 10000000000000000) := by
  have h : Fp.Fin 4585264900613480994 ∧ vl 4585264900613480994 = 2552039788843281 / 72057594037927936 := vl_const (s := false) (m := 5104079577686562) (k := 57) (by decide +kernel) (by decide +kernel)
  exact ⟨h.1, by rw [h.2]; constructor <;> grind⟩
theorem kB31 : Nr 13809880788793911511 (-(37 / 840)) (1 / 10000000000000000) := by
  have h : Fp.Fin 13809880788793911511 ∧ vl 13809880788793911511 = -(6347930903341271 / 144115188075855872) := vl_const (s := true) (m := 6347930903341271) (k := 57) (by decide +kernel) (by decide +kernel)
  exact ⟨h.1, by rw [h.2]; constructor <;> grind⟩
theorem kB40 : Nr 4583515287901101742 (4397 / 161280) (1 / 10000000000000000) := by
  have h : Fp.Fin 4583515287901101742 ∧ vl 4583515287901101742 = 3929033246338903 / 144115188075855872 := vl_const (s := false) (m := 7858066492677806) (k := 58) (by decide +kernel) (by decide +kernel)
  exact ⟨h.1, by rw [h.2]; constructor <;> grind⟩
variable {f : Nat}
theorem small_pw {n : Rat} (h : Wn n (6 / 1000)) : Wn (n * n) (6 / 1000) ∧ Wn (n * n * n) (6 / 1000) ∧ Wn (n * n * (n * n)) (6 / 1000) := by
  have a := wn_mul h h
  exact ⟨a.mono (by grind), (wn_mul a h).mono (by grind), (wn_mul a a).mono (by grind)⟩
theorem rowA_near (ff : Fp.Fin f) (h0 : 0 ≤ vl f) (h1 : vl f ≤ 10001 / 1000000) : Nr (rowS tabA cA4 f 0) (nv (nQ f) pA1) (1 / 1000000000000000) ∧ Nr (rowS tabA cA4 f 1) (nv (nQ f) pA2) (1 / 1000000000000000) ∧ Nr (rowS tabA cA4 f 2) (nv (nQ f) pA3) (1 / 1000000000000000) ∧ Nr (rowS tabA cA4 f 3) (nv (nQ f) pA4) (1 / 1000000000000000) := by
  have hn := nS_near ff h0 h1
  obtain ⟨b0, b1, _⟩ := nQ_bd h0 h1
  have bn : Wn (nQ f) (6 / 1000) := ⟨by grind, by grind⟩
  obtain ⟨s2, s3, s4⟩ := small_pw bn
  have h2 : Nr (n2S f) (nQ f * nQ f) (2 / 10000000000000000) := times_small hn hn bn bn
  have h3 : Nr (n3S f) (nQ f * nQ f * nQ f) (2 / 10000000000000000) := times_small h2 hn s2 bn
  have h4 : Nr (n4S f) (nQ f * nQ f * (nQ f * nQ f)) (2 / 10000000000000000) := times_small h2 h2 s2 s2
  generalize nQ f = n at *
  have g10 : Nr (Fp.can 4597374579611521661) (41 / 180) (1 / 1000000000000000) := by rw [kA13.can]; exact kA13.mono (by grind)
  have c10 : Wn (41 / 180 : Rat) (77 / 100) := ⟨by grind, by grind⟩
  obtain ⟨g11, c11⟩ := horn kA12 hn g10 (show Wn (5 / 16 : Rat) (3 / 4) from ⟨by grind, by grind⟩) bn c10
  obtain ⟨g12, c12⟩ := horn kA11 hn g11 (show Wn (-(2 / 3) : Rat) (3 / 4) from ⟨by grind, by grind⟩) bn c11
  obtain ⟨g13, c13⟩ := horn kA10 hn g12 (show Wn (1 / 2 : Rat) (3 / 4) from ⟨by grind, by grind⟩) bn c12
  have r1 := times_near hn g13 bn c13 (by grind) (by grind)
  have g20 : Nr (Fp.can 4600639689341365271) (557 / 1440) (1 / 1000000000000000) := by rw [kA22.can]; exact kA22.mono (by grind)
  have c20 : Wn (557 / 1440 : Rat) (77 / 100) := ⟨by grind, by grind⟩
  obtain ⟨g21, c21⟩ := horn kA21 hn g20 (show Wn (-(3 / 5) : Rat) (3 / 4) from ⟨by grind, by grind⟩) bn c20
  obtain ⟨g22, c22⟩ := horn kA20 hn g21 (show Wn (13 / 48 : Rat) (3 / 4) from ⟨by grind, by grind⟩) bn c21
  have r2 := times_near h2 g22 s2 c22 (by grind) (by grind)
  have g30 : Nr (Fp.can 13828173981566040240) (-(103 / 140)) (1 / 1000000000000000) := by rw [kA31.can]; exact kA31.mono (by grind)
  have c30 : Wn (-(103 / 140) : Rat) (77 / 100) := ⟨by grind, by grind⟩
  obtain ⟨g31, c31⟩ := horn kA30 hn g30 (show Wn (61 / 240 : Rat) (3 / 4) from ⟨by grind, by grind⟩) bn c30
  have r3 := times_near h3 g31 s3 c31 (by grind) (by grind)
  have g40 : Nr (Fp.can 4599207406156301484) (49561 / 161280) (1 / 1000000000000000) := by rw [kA40.can]; exact kA40.mono (by grind)
  have r4 := times_near h4 g40 s4 (show Wn (49561 / 161280 : Rat) (77 / 100) from ⟨by grind, by grind⟩) (by grind) (by grind)
  have e1 : nv n pA1 = n * (1 / 2 + n * (-(2 / 3) + n * (5 / 16 + n * (41 / 180)))) := by simp only [nv, pA1, rpw]; grind
  have e2 : nv n pA2 = n * n * (13 / 48 + n * (-(3 / 5) + n * (557 / 1440))) := by simp only [nv, pA2, rpw]; grind
  have e3 : nv n pA3 = n * n * n * (61 / 240 + n * (-(103 / 140))) := by simp only [nv, pA3, rpw]; grind
  have e4 : nv n pA4 = n * n * (n * n) * (49561 / 161280) := by simp only [nv, pA4, rpw]; grind
  rw [e1, e2, e3, e4]
  exact ⟨r1, r2, r3, r4⟩
theorem rowB_near (ff : Fp.Fin f) (h0 : 0 ≤ vl f) (h1 : vl f ≤ 10001 / 1000000) : Nr (rowS tabB cB4 f 0) (nv (nQ f) pB1) (1 / 1000000000000000) ∧ Nr (rowS tabB cB4 f 1) (nv (nQ f) pB2) (1 / 1000000000000000) ∧ Nr (rowS tabB cB4 f 2) (nv (nQ f) pB3) (1 / 1000000000000000) ∧ Nr (rowS tabB cB4 f 3) (nv (nQ f) pB4) (1 / 1000000000000000) := by
  have hn := nS_near ff h0 h1
  obtain ⟨b0, b1, _⟩ := nQ_bd h0 h1
  have bn : Wn (nQ f) (6 / 1000) := ⟨by grind, by grind⟩
  obtain ⟨s2, s3, s4⟩ := small_pw bn
  have h2 : Nr (n2S f) (nQ f * nQ f) (2 / 10000000000000000) := times_small hn hn bn bn
  have h3 : Nr (n3S f) (nQ f * nQ f * nQ f) (2 / 10000000000000000) := times_small h2 hn s2 bn
  have h4 : Nr (n4S f) (nQ f * nQ f * (nQ f * nQ f)) (2 / 10000000000000000) := times_small h2 h2 s2 s2
  generalize nQ f = n at *
  have g10 : Nr (Fp.can 13791923578851126295) (-(1 / 360)) (1 / 1000000000000000) := by rw [kB13.can]; exact kB13.mono (by grind)
  have c10 : Wn (-(1 / 360) : Rat) (77 / 100) := ⟨by grind, by grind⟩
  obtain ⟨g11, c11⟩ := horn kB12 hn g10 (show Wn (37 / 96 : Rat) (3 / 4) from ⟨by grind, by grind⟩) bn c10
  obtain ⟨g12, c12⟩ := horn kB11 hn g11 (show Wn (-(2 / 3) : Rat) (3 / 4) from ⟨by grind, by grind⟩) bn c11
  obtain ⟨g13, c13⟩ := horn kB10 hn g12 (show Wn (1 / 2 : Rat) (3 / 4) from ⟨by grind, by grind⟩) bn c12
  have r1 := times_near hn g13 bn c13 (by grind) (by grind)
  have g20 : Nr (Fp.can 13822510526320350913) (-(437 / 1440)) (1 / 1000000000000000) := by rw [kB22.can]; exact kB22.mono (by grind)
  have c20 : Wn (-(437 / 1440) : Rat) (77 / 100) := ⟨by grind, by grind⟩
  obtain ⟨g21, c21⟩ := horn kB21 hn g20 (show Wn (1 / 15 : Rat) (3 / 4) from ⟨by grind, by grind⟩) bn c20
  obtain ⟨g22, c22⟩ := horn kB20 hn g21 (show Wn (1 / 48 : Rat) (3 / 4) from ⟨by grind, by grind⟩) bn c21
  have r2 := times_near h2 g22 s2 c22 (by grind) (by grind)
  have g30 : Nr (Fp.can 13809880788793911511) (-(37 / 840)) (1 / 1000000000000000) := by rw [kB31.can]; exact kB31.mono (by grind)
  have c30 : Wn (-(37 / 840) : Rat) (77 / 100) := ⟨by grind, by grind⟩
  obtain ⟨g31, c31⟩ := horn kB30 hn g30 (show Wn (17 / 480 : Rat) (3 / 4) from ⟨by grind, by grind⟩) bn c30
  have r3 := times_near h3 g31 s3 c31 (by grind) (by grind)
  have g40 : Nr (Fp.can 4583515287901101742) (4397 / 161280) (1 / 1000000000000000) := by rw [kB40.can]; exact kB40.mono (by grind)
  have r4 := times_near h4 g40 s4 (show Wn (4397 / 161280 : Rat) (77 / 100) from ⟨by grind, by grind⟩) (by grind) (by grind)
  have e1 : nv n pB1 = n * (1 / 2 + n * (-(2 / 3) + n * (37 / 96 + n * (-(1 / 360))))) := by simp only [nv, pB1, rpw]; grind
  have e2 : nv n pB2 = n * n * (1 / 48 + n * (1 / 15 + n * (-(437 / 1440)))) := by simp only [nv, pB2, rpw]; grind
  have e3 : nv n pB3 = n * n * n * (17 / 480 + n * (-(37 / 840))) := by simp only [nv, pB3, rpw]; grind
  have e4 : nv n pB4 = n * n * (n * n) * (4397 / 161280) := by simp only [nv, pB4, rpw]; grind
  rw [e1, e2, e3, e4]
  exact ⟨r1, r2, r3, r4⟩
end Go.Proofs.YtcppgbhjbmfldaaDoor

/- The series forward, as floats, against the complex polynomial. -/
namespace Go.Fp.Tri
open Go.Fp
set_option maxRecDepth 20000
theorem Ex_zero : Ex 0 = 1 := by decide +kernel
theorem lipE4 : plip PE (4375 / 10000) ≤ 2 := by decide +kernel
theorem EX_lip {a b : Rat} (ha : Wn a 7) (hb : Wn b 7) (h : Wn (a - b) (1 / 10000000000000)) : Rn (EX a) (EX b) (3 / 100000000000) := by
  have s := EX_small (r := a - b) (h.mono (by grind))
  have l := wn_lip PE (x := a - b) (y := 0) (X := 4375 / 10000) (D := 1 / 10000000000000) (h.mono (by grind)) ⟨by grind, by grind⟩ (h.of (by grind) Rat.le_refl)
  have l2 := l.mono (B := 2 / 10000000000000) (by have := lipE4; grind)
  change Wn (Ex (a - b) - Ex 0) _ at l2
  rw [Ex_zero] at l2
  have t : Rn (Ex (a - b)) 1 (2 / 10000000000000) := ⟨by grind, l2.mono (by grind)⟩
  have u := s.trans t (by grind)
  have q := EX_add hb (b := a - b) (h.mono (by grind)) (by rw [show b + (a - b) = a by grind]; exact ha)
  rw [show b + (a - b) = a by grind] at q
  have r := (Rn.refl (EX_pos hb)).mul u (by grind)
  exact (((q.symm (by grind)).trans r (by grind)).cast rfl (by grind)).mono (by grind)
theorem wn_negy {y B : Rat} (h : Wn y B) : Wn (-y) B := ⟨by have := h.2; grind, by have := h.1; grind⟩
end Go.Fp.Tri
namespace Go.Proofs.YtcppgbhjbmfldaaDoor
open Go.Fp Go.Fp.Tri
set_option maxRecDepth 20000
theorem sine_pair (m : Int) {V : Nat} {y : Rat} (fV : Fp.Fin V) (hy : Wn y (49 / 10)) (he : Wn (vl V - y) (1 / 10000000000000)) :
    Fp.Fin (sinRe m V) ∧ Fp.Fin (sinIm m V) ∧ MB ((⟨-2 * vl (sinIm m V), 2 * vl (sinRe m V)⟩ : Cx).sub (PP m y)) (2 / 1000000000 * (EX y + EX (-y))) ∧ 0 < EX y + EX (-y) ∧ EX y + EX (-y) ≤ 210000 := by
  have u1 : uu = 1 / 9007199254740992 := uu_eq
  have bV : Wn (vl V) 5 := (wn_add he hy).of (by grind) (by grind)
  obtain ⟨fH, fK, eH, eK, L1, L2⟩ := hyp_near fV bV
  have r1 := EX_lip (bV.mono (show (5 : Rat) ≤ 7 by grind)) (hy.mono (show (49 : Rat) / 10 ≤ 7 by grind)) he
  have r2 := EX_lip (wn_negy (bV.mono (show (5 : Rat) ≤ 7 by grind))) (wn_negy (hy.mono (show (49 : Rat) / 10 ≤ 7 by grind))) ((wn_negy he).of (by grind) Rat.le_refl)
  obtain ⟨⟨fc, ec⟩, ⟨fs, es⟩⟩ := cis_near m
  have pn := PP_near m (hy.mono (show (49 : Rat) / 10 ≤ 7 by grind))
  have cb := cis_bd m
  have bc := cb.re
  have bs := cb.im
  unfold sinRe sinIm
  rw [fc.can, fs.can]
  generalize hypH (expP V) = h at *
  generalize hypK (expP V) = k at *
  generalize EX (vl V) = X at *
  generalize EX (-vl V) = Y at *
  generalize EX y = x at *
  generalize EX (-y) = z at *
  obtain ⟨x0, r1a, r1b⟩ := r1
  obtain ⟨z0, r2a, r2b⟩ := r2
  obtain ⟨h1, h2⟩ := eH
  obtain ⟨k1, k2⟩ := eK
  have L0 : 0 < x + z := by grind
  have Lh : x + z ≤ 210000 := by grind
  have L3 : 198 / 100 ≤ x + z := by grind
  have eH' : Wn (vl h - (x + z) / 2) (3 / 10000000000 * (x + z)) := by constructor <;> grind
  have eK' : Wn (vl k - (x - z) / 2) (3 / 10000000000 * (x + z)) := by constructor <;> grind
  have bH : Wn (vl h) (51 / 100 * (x + z)) := by obtain ⟨_, _⟩ := eH'; constructor <;> grind
  have bK : Wn (vl k) (51 / 100 * (x + z)) := by obtain ⟨_, _⟩ := eK'; constructor <;> grind
  have bsf : Wn (vl (sinP m)) (1001 / 1000) := (wn_add es bs).of (by grind) (by grind)
  have bcf : Wn (vl (cosP m)) (1001 / 1000) := (wn_add ec bc).of (by grind) (by grind)
  have nz : ∀ a A B : Rat, a = A → Wn (a * 1) B → Wn A B := fun a A B e h => by rw [← e]; exact h.of (by grind) Rat.le_refl
  obtain ⟨f1, e1⟩ := mulE fs fH _ (wn_mul bsf bH) (by grind)
  obtain ⟨f2, e2⟩ := mulE fc fK _ (wn_mul bcf bK) (by grind)
  refine ⟨f1, f2, ?_, L0, Lh⟩
  have d1 : Wn (vl (fmul (sinP m) h) - (cis m).im * ((x + z) / 2)) (31 / 100000000000 * (x + z)) := by
    refine (wn_add e1 (wn_add (wn_mul es bH) (wn_mul bs eH'))).of (by grind) (by rw [u1]; grind)
  have d2 : Wn (vl (fmul (cosP m) k) - (cis m).re * ((x - z) / 2)) (31 / 100000000000 * (x + z)) := by
    refine (wn_add e2 (wn_add (wn_mul ec bK) (wn_mul bc eK'))).of (by grind) (by rw [u1]; grind)
  have a : MB ((⟨-2 * vl (fmul (cosP m) k), 2 * vl (fmul (sinP m) h)⟩ : Cx).sub ⟨(cis m).re * (z - x), (cis m).im * (z + x)⟩) (1 / 1000000000 * (x + z)) := by
    refine MB.of (x := 62 / 100000000000 * (x + z)) (y := 62 / 100000000000 * (x + z)) ?_ ?_ (by grind) ?_
    · obtain ⟨_, _⟩ := d2
      show Wn (-2 * vl (fmul (cosP m) k) - (cis m).re * (z - x)) _
      constructor <;> grind
    · obtain ⟨_, _⟩ := d1
      show Wn (2 * vl (fmul (sinP m) h) - (cis m).im * (z + x)) _
      constructor <;> grind
    · have := rsq_nonneg (x + z)
      grind
  refine ((a.add pn).cast ?_).mono (by grind)
  exact Cx.ext' (by simp; grind) (by simp; grind)
end Go.Proofs.YtcppgbhjbmfldaaDoor

/- A place of the series forward, as floats: near the complex polynomial. -/
namespace Go.Fp.Tri
open Go.Fp
set_option maxRecDepth 20000
def nbd (N : Rat) : List (Nat × Rat) → Rat
  | [] => 0
  | t :: l => (if t.2 < 0 then -t.2 else t.2) * rpw N t.1 + nbd N l
theorem nv_bd {n N : Rat} (h : Wn n N) : ∀ l, Wn (nv n l) (nbd N l)
  | [] => ⟨by simp [nv, nbd], by simp [nv, nbd]⟩
  | t :: l => by
    refine wn_add (wn_mul ?_ (rpw_bd h t.1)) (nv_bd h l)
    split <;> (constructor <;> grind)
theorem bA_mid : nbd (5026 / 1000000) pA1 ≤ 26 / 10000 ∧ nbd (5026 / 1000000) pA2 ≤ 8 / 1000000 ∧ nbd (5026 / 1000000) pA3 ≤ 4 / 100000000 ∧ nbd (5026 / 1000000) pA4 ≤ 3 / 10000000000 := by decide +kernel
theorem bB_mid : nbd (5026 / 1000000) pB1 ≤ 26 / 10000 ∧ nbd (5026 / 1000000) pB2 ≤ 6 / 10000000 ∧ nbd (5026 / 1000000) pB3 ≤ 5 / 1000000000 ∧ nbd (5026 / 1000000) pB4 ≤ 3 / 100000000000 := by decide +kernel
/-- an angle and a number beside it, how much it grows by being told -/
structure Wave (u : Int) (v K : Rat) : Prop where
  bv : Wn v (57 / 100)
  k1 : EX (2 * v) ≤ K
  k2 : EX (-(2 * v)) ≤ K
  hK : K ≤ 30002 / 10000
def wE (u : Int) (v : Rat) : Cx := Wv (2 * u) (-(2 * v))
def wF (u : Int) (v : Rat) : Cx := cinv (wE u v)
variable {u : Int} {v K : Rat}
theorem Wave.b2 (h : Wave u v K) : Wn (2 * v) (17 / 10) ∧ Wn (-(2 * v)) (17 / 10) := by
  obtain ⟨_, _⟩ := h.bv
  exact ⟨⟨by grind, by grind⟩, ⟨by grind, by grind⟩⟩
theorem Wave.inv (h : Wave u v K) : (wE u v).mul (wF u v) = Cx.one := cinv_mul (Wv_norm _ (h.b2.2.mono (by grind)))
theorem Wave.K0 (h : Wave u v K) : 0 < K := by
  have := EX_pos (h.b2.1.mono (show (17 : Rat) / 10 ≤ 7 by grind))
  have := h.k1
  grind
theorem Wave.E (h : Wave u v K) : MB (wE u v) (K * (1000002 / 1000000)) := by
  have k0 := h.K0
  have k2 := h.k2
  exact (Wv_bd _ (h.b2.2.mono (by grind))).mono (by grind)
theorem Wave.F (h : Wave u v K) : MB ((wF u v).sub (Wv (-(2 * u)) (2 * v))) (9 / 1000000000000 * K) ∧ MB (wF u v) (K * (1000002 / 1000000)) := by
  have := cinv_near (2 * u) (h.b2.2.mono (show (17 : Rat) / 10 ≤ 7 by grind)) (K := K) (by rw [show - -(2 * v) = 2 * v by grind]; exact h.k1)
  rw [show - -(2 * v) = 2 * v by grind] at this
  exact this
theorem zpw_negNat (E F : Cx) (j : Nat) : zpw E F (-(j : Int)) = npw F j := by
  cases j with
  | zero => rfl
  | succ j => rfl
theorem rpw_num {K : Rat} (h0 : 0 < K) (h : K ≤ 30002 / 10000) : ∀ j : Nat, j ≤ 4 → 0 < rpw (K * (1000002 / 1000000)) j ∧ rpw (K * (1000002 / 1000000)) j ≤ rpw (30003 / 10000) j := by
  intro j hj
  have b := rpw_bd (show Wn (K * (1000002 / 1000000)) (30003 / 10000) from ⟨by grind, by grind⟩) j
  refine ⟨?_, b.2⟩
  clear hj b
  induction j with
  | zero => simp only [rpw]; grind
  | succ j ih => simp only [rpw]; exact Rat.mul_pos (by grind) ih
theorem rpw3 : rpw (30003 / 10000) 1 = 30003 / 10000 ∧ rpw (30003 / 10000) 2 ≤ 9002 / 1000 ∧ rpw (30003 / 10000) 3 ≤ 2701 / 100 ∧ rpw (30003 / 10000) 4 ≤ 811 / 10 := by decide +kernel
/-- the powers are what turns and grows so often -/
theorem Wave.pow (h : Wave u v K) (j : Nat) (hj : j ≤ 4) :
    MB ((zpw (wE u v) (wF u v) (j : Int)).sub (Wv ((j : Int) * (2 * u)) ((j : Rat) * -(2 * v)))) ((j : Rat) * (18 / 1000000000000) * rpw (30003 / 10000) j) ∧
    MB ((zpw (wE u v) (wF u v) (-(j : Int))).sub (Wv ((j : Int) * -(2 * u)) ((j : Rat) * (2 * v)))) ((j : Rat) * (18 / 1000000000000) * rpw (30003 / 10000) j) ∧
    EX ((j : Rat) * (2 * v)) ≤ rpw (30003 / 10000) j ∧ EX ((j : Rat) * -(2 * v)) ≤ rpw (30003 / 10000) j := by
  have k0 := h.K0
  obtain ⟨b1, b2⟩ := h.b2
  have z : MB ((wE u v).sub (Wv (2 * u) (-(2 * v)))) (9 / 1000000000000 * K) := (MB.zero.cast (by unfold wE; exact Cx.ext' (by simp; grind) (by simp; grind))).mono (by grind)
  obtain ⟨p1, p2⟩ := pow_near z h.E h.k2 b2 j hj
  obtain ⟨f1, f2⟩ := h.F
  obtain ⟨q1, q2⟩ := pow_near f1 f2 h.k1 b1 j hj
  obtain ⟨r0, r1⟩ := rpw_num k0 h.hK j hj
  have j0 : (0 : Rat) ≤ (j : Rat) := by exact_mod_cast Nat.zero_le j
  have m := Rat.mul_le_mul_of_nonneg_left r1 (show 0 ≤ (j : Rat) * (18 / 1000000000000) from Rat.mul_nonneg j0 (by grind))
  rw [zpw_negNat]
  exact ⟨p1.mono m, q1.mono m, Rat.le_trans q2 r1, Rat.le_trans p2 r1⟩
/-- what the sine comes to, by powers -/
theorem Wave.pair (h : Wave u v K) (j : Nat) (hj : j ≤ 4) {m : Int} {y : Rat} (hm : m = (j : Int) * (2 * u)) (hy : y = (j : Rat) * (2 * v)) :
    MB ((PP m y).sub ((zpw (wE u v) (wF u v) (j : Int)).sub (zpw (wE u v) (wF u v) (-(j : Int))))) (2 * ((j : Rat) * (18 / 1000000000000) * rpw (30003 / 10000) j)) := by
  obtain ⟨a, b, _, _⟩ := h.pow j hj
  rw [show (j : Int) * -(2 * u) = -((j : Int) * (2 * u)) by rw [Int.mul_neg]] at b
  rw [show (j : Rat) * -(2 * v) = -((j : Rat) * (2 * v)) by grind] at a
  rw [← hm, ← hy] at a b
  unfold PP
  refine ((b.sub a).cast ?_).mono (by grind)
  generalize Wv m (-y) = w1
  generalize Wv (-m) y = w2
  exact Cx.ext' (by simp; grind) (by simp; grind)
end Go.Fp.Tri
namespace Go.Proofs.YtcppgbhjbmfldaaDoor
open Go.Fp Go.Fp.Tri
set_option maxRecDepth 20000
/-- a float times a small whole number -/
theorem mul_small (k : Nat) (hk : k < 4) {V : Nat} {b : Rat} (fV : Fp.Fin V) (hb : Wn (vl V) b) (hb2 : b ≤ 58 / 100) : Fp.Fin (fmul (Fp.can (floatOfInt .f64 (2 * ((k : Int) + 1)))) V) ∧ Wn (vl (fmul (Fp.can (floatOfInt .f64 (2 * ((k : Int) + 1)))) V) - 2 * ((k : Rat) + 1) * vl V) (1 / 100000000000000) := by
  have u1 : uu = 1 / 9007199254740992 := uu_eq
  obtain ⟨fi, ei⟩ := vl_int (2 * ((k : Int) + 1)) (by omega)
  rw [fi.can]
  have hk3 : (k : Rat) ≤ 3 := by exact_mod_cast (show k ≤ 3 by omega)
  have hk0 : (0 : Rat) ≤ (k : Rat) := by exact_mod_cast Nat.zero_le k
  have e : vl (floatOfInt .f64 (2 * ((k : Int) + 1))) = 2 * ((k : Rat) + 1) := by rw [ei]; push_cast; rfl
  obtain ⟨f1, e1⟩ := mulE fi fV 5 (by rw [e]; exact (wn_mul (show Wn (2 * ((k : Rat) + 1)) 8 from ⟨by grind, by grind⟩) hb).mono (by grind)) (by grind)
  rw [e] at e1
  exact ⟨f1, e1.mono (by rw [u1]; grind)⟩
/-- one member of the series, as floats -/
theorem member {u : Int} {v K : Rat} {V : Nat} (h : Wave u v K) (fV : Fp.Fin V) (hV : vl V = v) (k : Nat) (hk : k < 4) :
    Fp.Fin (sinRe (2 * ((k : Int) + 1) * u) (fmul (Fp.can (floatOfInt .f64 (2 * ((k : Int) + 1)))) V)) ∧ Fp.Fin (sinIm (2 * ((k : Int) + 1) * u) (fmul (Fp.can (floatOfInt .f64 (2 * ((k : Int) + 1)))) V)) ∧
    MB ((⟨-2 * vl (sinIm (2 * ((k : Int) + 1) * u) (fmul (Fp.can (floatOfInt .f64 (2 * ((k : Int) + 1)))) V)), 2 * vl (sinRe (2 * ((k : Int) + 1) * u) (fmul (Fp.can (floatOfInt .f64 (2 * ((k : Int) + 1)))) V))⟩ : Cx).sub
      ((zpw (wE u v) (wF u v) ((k + 1 : Nat) : Int)).sub (zpw (wE u v) (wF u v) (-((k + 1 : Nat) : Int))))) (5 / 1000000000 * rpw (30003 / 10000) (k + 1)) ∧
    Wn (vl (sinRe (2 * ((k : Int) + 1) * u) (fmul (Fp.can (floatOfInt .f64 (2 * ((k : Int) + 1)))) V))) 100 ∧ Wn (vl (sinIm (2 * ((k : Int) + 1) * u) (fmul (Fp.can (floatOfInt .f64 (2 * ((k : Int) + 1)))) V))) 100 := by
  have bv := h.bv
  obtain ⟨f1, e1⟩ := mul_small k hk fV (by rw [hV]; exact bv) (by grind)
  have hk3 : (k : Rat) ≤ 3 := by exact_mod_cast (show k ≤ 3 by omega)
  have hk0 : (0 : Rat) ≤ (k : Rat) := by exact_mod_cast Nat.zero_le k
  have ek : ((k + 1 : Nat) : Rat) = (k : Rat) + 1 := by push_cast; rfl
  have ei : ((k + 1 : Nat) : Int) = (k : Int) + 1 := by push_cast; rfl
  obtain ⟨y, hy⟩ : ∃ y : Rat, y = 2 * ((k : Rat) + 1) * v := ⟨_, rfl⟩
  rw [hV, ← hy] at e1
  have by1 : Wn y (49 / 10) := by rw [hy]; exact (wn_mul (show Wn (2 * ((k : Rat) + 1)) 8 from ⟨by grind, by grind⟩) bv).mono (by grind)
  obtain ⟨g1, g2, g3, g4, _⟩ := sine_pair (2 * ((k : Int) + 1) * u) f1 by1 (e1.mono (by grind))
  have hp := h.pair (k + 1) (by omega) (m := 2 * ((k : Int) + 1) * u) (y := y) (by rw [ei]; grind) (by rw [hy, ek]; grind)
  obtain ⟨_, _, x1, x2⟩ := h.pow (k + 1) (by omega)
  rw [show ((k + 1 : Nat) : Rat) * (2 * v) = y by rw [hy, ek]; grind] at x1
  rw [show ((k + 1 : Nat) : Rat) * -(2 * v) = -y by rw [hy, ek]; grind] at x2
  rw [ek] at hp
  have r0 : 0 < rpw (30003 / 10000) (k + 1) := by
    have := (rpw_num (K := 3) (by grind) (by grind) (k + 1) (by omega)); grind
  have r4 : rpw (30003 / 10000) (k + 1) ≤ 811 / 10 := by
    obtain ⟨a, b, c, d⟩ := rpw3
    rcases k with _ | _ | _ | _ | k
    · rw [a]; grind
    · exact Rat.le_trans b (by grind)
    · exact Rat.le_trans c (by grind)
    · exact d
    · omega
  refine ⟨g1, g2, ?_, ?_, ?_⟩
  · refine ((g3.add hp).cast ?_).mono ?_
    · generalize PP (2 * ((k : Int) + 1) * u) y = P
      exact Cx.ext' (by simp; grind) (by simp; grind)
    · generalize rpw (30003 / 10000) (k + 1) = R at *
      generalize (k : Rat) = kk at *
      have t := Rat.mul_le_mul_of_nonneg_right (show kk + 1 ≤ 4 by grind) (Rat.le_of_lt r0)
      have e2 : (kk + 1) * (18 / 1000000000000) * R = 18 / 1000000000000 * ((kk + 1) * R) := by grind
      rw [e2]
      generalize (kk + 1) * R = kR at *
      grind
  all_goals
    -- bounds
    have pb : MB (PP (2 * ((k : Int) + 1) * u) y) (163) := by
      have w1 := Wv_bd (2 * ((k : Int) + 1) * u) (wn_negy (by1.mono (show (49 : Rat) / 10 ≤ 7 by grind)))
      have w2 := Wv_bd (-(2 * ((k : Int) + 1) * u)) (by1.mono (show (49 : Rat) / 10 ≤ 7 by grind))
      exact (w1.sub w2).mono (by grind)
    have t := (g3.add pb).cast (w := (⟨-2 * vl (sinIm (2 * ((k : Int) + 1) * u) (fmul (Fp.can (floatOfInt .f64 (2 * ((k : Int) + 1)))) V)), 2 * vl (sinRe (2 * ((k : Int) + 1) * u) (fmul (Fp.can (floatOfInt .f64 (2 * ((k : Int) + 1)))) V))⟩ : Cx)) (Cx.ext' (by simp; grind) (by simp; grind))
    have t1 := t.re
    have t2 := t.im
    simp only at t1 t2
  · obtain ⟨_, _⟩ := t2
    constructor <;> grind
  · obtain ⟨_, _⟩ := t1
    constructor <;> grind
end Go.Proofs.YtcppgbhjbmfldaaDoor

/- The series there and back, as floats. -/
namespace Go.Fp.Tri
open Go.Fp
set_option maxRecDepth 20000
/-- numbers of a regime: how small the third flattening is, how much things grow, how far the series moves; what is left over of each step -/
structure Reg (N Kp q B2 B1 B3 B4 m d1 d2 d3 d4 e M : Rat) : Prop where
  q0 : 0 ≤ q
  e0 : 0 ≤ e
  e9 : e ≤ 1 / 1000000
  q7 : q ≤ 175 / 10000
  tA : tbd N Kp (tnorm tA) + 1 / 1000000 ≤ q
  tR : tbd N Kp tR ≤ m
  b2 : qbd Q2re q q ≤ B2 ∧ qbd Q2im q q ≤ B2
  b1 : qbd Q1re (2 * q) (2 * q) ≤ B1 ∧ qbd Q1im (2 * q) (2 * q) ≤ B1
  b3 : qbd Q0re (3 * q) (3 * q) ≤ B3 ∧ qbd Q0im (3 * q) (3 * q) ≤ B3
  b4 : qbd Q0re (4 * q) (4 * q) ≤ B4 ∧ qbd Q0im (4 * q) (4 * q) ≤ B4
  e1 : nbd N pB1 ≤ d1
  e2 : nbd N pB2 ≤ d2
  e3 : nbd N pB3 ≤ d3
  e4 : nbd N pB4 ≤ d4
  kp : 0 ≤ Kp
  sum : m + d1 * (2 / 100000000 + 2 * Kp * (3 / 2 * B2 + 102 / 100 * e)) + d2 * (6 / 100000000 + 2 * (Kp * Kp) * (3 / 2 * B1 + 3 * e)) + d3 * (2 / 10000000 + 2 * (Kp * Kp * Kp) * (3 / 2 * B3)) + d4 * (6 / 10000000 + 2 * (Kp * Kp * Kp * Kp) * (3 / 2 * B4)) + 3 / 100000000000 ≤ M
theorem reg_mid : Reg (5026 / 1000000) (30001 / 10000) (154 / 10000) (5 / 1000000) (2 / 1000) (98 / 1000) (132 / 1000) (1 / 100000000) (26 / 10000) (6 / 10000000) (5 / 1000000000) (3 / 100000000000) (1 / 1000000) (3 / 10000000) := by
  constructor <;> decide +kernel
/-- moved by a' instead of by A -/
theorem step_move {D a A : Cx} {τ ε q : Rat} (h : MB (D.sub ((Cx.one.add a).add (Cx.sc (1 / 2) (a.mul a)))) τ) (he : MB (a.sub A) ε) (ha : MB a q) (hA : MB A q) (hq : q ≤ 2 / 100) : MB (D.sub ((Cx.one.add A).add (Cx.sc (1 / 2) (A.mul A)))) (τ + 102 / 100 * ε) := by
  have s := (ha.add hA).sc (c := 1 / 2) (d := 1 / 2) ⟨by grind, Rat.le_refl⟩
  have t := he.mul (MB.one.add s)
  refine ((h.add t).cast ?_).mono ?_
  · exact Cx.ext' (by simp; grind) (by simp; grind)
  · have e0 := he.1
    have := Rat.mul_le_mul_of_nonneg_left (show 1 + 1 / 2 * (q + q) ≤ 102 / 100 by grind) e0
    grind
end Go.Fp.Tri
namespace Go.Proofs.YtcppgbhjbmfldaaDoor
open Go.Fp Go.Fp.Tri
set_option maxRecDepth 20000
theorem acc_add {z r s : Nat} {ρ B : Rat} (fz : Fp.Fin z) (hr : Nr r ρ (1 / 1000000000000000)) (bρ : Wn ρ (3 / 1000)) (fs : Fp.Fin s) (bs : Wn (vl s) 100) (bz : Wn (vl z) B) (hB : B ≤ 10) :
    Fp.Fin (fadd z (fmul r s)) ∧ Wn (vl (fadd z (fmul r s)) - (vl z + ρ * vl s)) (2 / 10000000000000) ∧ Wn (vl (fadd z (fmul r s))) (B + 31 / 100) := by
  have u1 : uu = 1 / 9007199254740992 := uu_eq
  have br : Wn (vl r) (301 / 100000) := (wn_add hr.2 bρ).of (by grind) (by grind)
  obtain ⟨f1, e1⟩ := mulE hr.1 fs _ (wn_mul br bs) (by grind)
  have bm : Wn (vl (fmul r s)) (302 / 1000) := (wn_add e1 (wn_mul br bs)).of (by grind) (by rw [u1]; grind)
  obtain ⟨f2, e2⟩ := addE fz f1 _ (wn_add bz bm) (by grind)
  refine ⟨f2, (wn_add (wn_add e2 e1) (wn_mul hr.2 bs)).of (by grind) (by rw [u1]; grind), (wn_add e2 (wn_add bz bm)).of (by grind) (by rw [u1]; grind)⟩
theorem acc_sub {z r s : Nat} {ρ B : Rat} (fz : Fp.Fin z) (hr : Nr r ρ (1 / 1000000000000000)) (bρ : Wn ρ (3 / 1000)) (fs : Fp.Fin s) (bs : Wn (vl s) 120) (bz : Wn (vl z) B) (hB : B ≤ 10) :
    Fp.Fin (fsub z (fmul r s)) ∧ Wn (vl (fsub z (fmul r s)) - (vl z - ρ * vl s)) (2 / 10000000000000) ∧ Wn (vl (fsub z (fmul r s))) (B + 37 / 100) := by
  have u1 : uu = 1 / 9007199254740992 := uu_eq
  have br : Wn (vl r) (301 / 100000) := (wn_add hr.2 bρ).of (by grind) (by grind)
  obtain ⟨f1, e1⟩ := mulE hr.1 fs _ (wn_mul br bs) (by grind)
  have bm : Wn (vl (fmul r s)) (363 / 1000) := (wn_add e1 (wn_mul br bs)).of (by grind) (by rw [u1]; grind)
  obtain ⟨f2, e2⟩ := subE fz f1 _ (wn_sub bz bm) (by grind)
  refine ⟨f2, (wn_sub e2 (wn_add e1 (wn_mul hr.2 bs))).of (by grind) (by rw [u1]; grind), (wn_add e2 (wn_sub bz bm)).of (by grind) (by rw [u1]; grind)⟩
/-- a place of the series forward -/
def aRe (f : Nat) (u : Int) (V R0 : Nat) : Nat → Nat
  | 0 => R0
  | k + 1 => fadd (aRe f u V R0 k) (fmul (rowS tabA cA4 f k) (sinRe (2 * ((k : Int) + 1) * u) (fmul (Fp.can (floatOfInt .f64 (2 * ((k : Int) + 1)))) V)))
def aIm (f : Nat) (u : Int) (V I0 : Nat) : Nat → Nat
  | 0 => I0
  | k + 1 => fadd (aIm f u V I0 k) (fmul (rowS tabA cA4 f k) (sinIm (2 * ((k : Int) + 1) * u) (fmul (Fp.can (floatOfInt .f64 (2 * ((k : Int) + 1)))) V)))
theorem fwd {f u : _} {V R0 : Nat} {v K bR : Rat} (ff : Fp.Fin f) (h0 : 0 ≤ vl f) (h1 : vl f ≤ 10001 / 1000000) (h : Wave u v K) (fV : Fp.Fin V) (hV : vl V = v) (fR : Fp.Fin R0) (hR : Wn (vl R0) bR) (hbR : bR ≤ 4) :
    Fp.Fin (aRe f u V R0 4) ∧ Fp.Fin (aIm f u V V 4) ∧ MB ((⟨-2 * (vl (aIm f u V V 4) - v), 2 * (vl (aRe f u V R0 4) - vl R0)⟩ : Cx).sub (serA (nQ f) (wE u v) (wF u v))) (1 / 10000000000) := by
  obtain ⟨r0, r1, r2, r3⟩ := rowA_near ff h0 h1
  obtain ⟨n0, n1, _⟩ := nQ_bd h0 h1
  have hn : Wn (nQ f) (5026 / 1000000) := ⟨by grind, n1⟩
  obtain ⟨c1, c2, c3, c4⟩ := bA_mid
  have b0 := (nv_bd hn pA1).mono c1
  have b1 := (nv_bd hn pA2).mono c2
  have b2 := (nv_bd hn pA3).mono c3
  have b3 := (nv_bd hn pA4).mono c4
  obtain ⟨s0, i0, p0, x0, y0⟩ := member h fV hV 0 (by omega)
  obtain ⟨s1, i1, p1, x1, y1⟩ := member h fV hV 1 (by omega)
  obtain ⟨s2, i2, p2, x2, y2⟩ := member h fV hV 2 (by omega)
  obtain ⟨s3, i3, p3, x3, y3⟩ := member h fV hV 3 (by omega)
  have bv : Wn (vl V) (57 / 100) := by rw [hV]; exact h.bv
  obtain ⟨f1, e1, g1⟩ := acc_add fR r0 (b0.mono (by grind)) s0 x0 hR (by grind)
  obtain ⟨f2, e2, g2⟩ := acc_add f1 r1 (b1.mono (by grind)) s1 x1 g1 (by grind)
  obtain ⟨f3, e3, g3⟩ := acc_add f2 r2 (b2.mono (by grind)) s2 x2 g2 (by grind)
  obtain ⟨f4, e4, _⟩ := acc_add f3 r3 (b3.mono (by grind)) s3 x3 g3 (by grind)
  obtain ⟨k1, d1, l1⟩ := acc_add fV r0 (b0.mono (by grind)) i0 y0 bv (by grind)
  obtain ⟨k2, d2, l2⟩ := acc_add k1 r1 (b1.mono (by grind)) i1 y1 l1 (by grind)
  obtain ⟨k3, d3, l3⟩ := acc_add k2 r2 (b2.mono (by grind)) i2 y2 l2 (by grind)
  obtain ⟨k4, d4, _⟩ := acc_add k3 r3 (b3.mono (by grind)) i3 y3 l3 (by grind)
  refine ⟨f4, k4, ?_⟩
  obtain ⟨z1, z2, z3, z4⟩ := rpw3
  have q := sum4_near b0 b1 b2 b3 p0 p1 p2 p3
  change MB ((sum4 _ _ _ _ _ _ _ _).sub (sum4 (nv (nQ f) pA1) (nv (nQ f) pA2) (nv (nQ f) pA3) (nv (nQ f) pA4) ((zpw (wE u v) (wF u v) 1).sub (zpw (wE u v) (wF u v) (-1))) ((zpw (wE u v) (wF u v) 2).sub (zpw (wE u v) (wF u v) (-2))) ((zpw (wE u v) (wF u v) 3).sub (zpw (wE u v) (wF u v) (-3))) ((zpw (wE u v) (wF u v) 4).sub (zpw (wE u v) (wF u v) (-4))))) _ at q
  rw [← serA_eq h.inv] at q
  change Wn (vl (aRe f u V R0 4) - (vl (aRe f u V R0 3) + _)) _ at e4
  change Wn (vl (aRe f u V R0 3) - (vl (aRe f u V R0 2) + _)) _ at e3
  change Wn (vl (aRe f u V R0 2) - (vl (aRe f u V R0 1) + _)) _ at e2
  change Wn (vl (aRe f u V R0 1) - (vl R0 + _)) _ at e1
  change Wn (vl (aIm f u V V 4) - (vl (aIm f u V V 3) + _)) _ at d4
  change Wn (vl (aIm f u V V 3) - (vl (aIm f u V V 2) + _)) _ at d3
  change Wn (vl (aIm f u V V 2) - (vl (aIm f u V V 1) + _)) _ at d2
  change Wn (vl (aIm f u V V 1) - (vl V + _)) _ at d1
  have tot1 := wn_add (wn_add (wn_add e1 e2) e3) e4
  have tot2 := wn_add (wn_add (wn_add d1 d2) d3) d4
  rw [hV] at tot2
  refine (((MB.of (z := (⟨-2 * ((vl (aIm f u V V 1) - (v + nv (nQ f) pA1 * _)) + _ + _ + _), 2 * ((vl (aRe f u V R0 1) - (vl R0 + nv (nQ f) pA1 * _)) + _ + _ + _)⟩ : Cx)) (x := 16 / 10000000000000) (y := 16 / 10000000000000) (r := 3 / 1000000000000) ((wn_mul (show Wn (-2 : Rat) 2 from ⟨by grind, by grind⟩) tot2).mono (by grind)) ((wn_mul (show Wn (2 : Rat) 2 from ⟨by grind, by grind⟩) tot1).mono (by grind)) (by grind) (by grind)).add q).cast ?_).mono ?_
  · unfold sum4
    generalize serA (nQ f) (wE u v) (wF u v) = A
    generalize nv (nQ f) pA1 = w1
    generalize nv (nQ f) pA2 = w2
    generalize nv (nQ f) pA3 = w3
    generalize nv (nQ f) pA4 = w4
    exact Cx.ext' (by simp; grind) (by simp; grind)
  · change 3 / 1000000000000 + (26 / 10000 * (5 / 1000000000 * rpw (30003 / 10000) 1) + 8 / 1000000 * (5 / 1000000000 * rpw (30003 / 10000) 2) + 4 / 100000000 * (5 / 1000000000 * rpw (30003 / 10000) 3) + 3 / 10000000000 * (5 / 1000000000 * rpw (30003 / 10000) 4)) ≤ _
    rw [z1]
    grind
end Go.Proofs.YtcppgbhjbmfldaaDoor
