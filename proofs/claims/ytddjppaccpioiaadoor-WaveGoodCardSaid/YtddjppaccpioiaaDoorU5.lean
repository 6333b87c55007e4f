/- Walks: where a place is on a strip: package wave's To. -/
import Derived.Test.YtddjppaccpioiaaDoorU4
namespace Go.Proofs.YtddjppaccpioiaaDoor
open Go.RowKit Go.Fp Go.Rel
set_option maxRecDepth 20000

abbrev cRadS : Nat := 4445950764994258515
/-- a place of a series -/
def zRe (T : Nat → List Nat) (c f : Nat) (u : Int) (V R0 : Nat) : Nat → Nat
  | 0 => R0
  | k + 1 => fadd (zRe T c f u V R0 k) (fmul (rowS T c f k) (sinRe (2 * ((k : Int) + 1) * u) (fmul (can (floatOfInt .f64 (2 * ((k : Int) + 1)))) V)))
def zIm (T : Nat → List Nat) (c f : Nat) (u : Int) (V I0 : Nat) : Nat → Nat
  | 0 => I0
  | k + 1 => fadd (zIm T c f u V I0 k) (fmul (rowS T c f k) (sinIm (2 * ((k : Int) + 1) * u) (fmul (can (floatOfInt .f64 (2 * ((k : Int) + 1)))) V)))
def stripX (a f sc : Nat) (u : Int) (V : Nat) : Nat := fmul (fmul (radS a f) (can sc)) (zIm tabA cA4 f u V V 4)
def stripY (a f sc : Nat) (u : Int) (V : Nat) : Nat := fmul (fmul (radS a f) (can sc)) (zRe tabA cA4 f u V (fmul (can (floatOfInt .f64 u)) (can cRadS)) 4)

theorem signP_range (a : Int) : -180000000000 ≤ signP a ∧ signP a ≤ 180000000000 := by
  obtain ⟨n1, n2⟩ := norm_range a
  unfold signP
  split <;> omega
theorem mul_range (k : Nat) (hk : k < 4) (u : Int) (h1 : -180000000000 ≤ u) (h2 : u ≤ 180000000000) : -9000000000000 ≤ 2 * ((k : Int) + 1) * u ∧ 2 * ((k : Int) + 1) * u ≤ 9000000000000 := by
  rcases k with _ | _ | _ | _ | k
  · omega
  · simp; omega
  · simp; omega
  · simp; omega
  · omega
/-- a complex number of told parts -/
def isCx (X Y : Nat) (v : Value) : Prop := ∃ x y, v = .complex .f64 x y ∧ can x = X ∧ can y = Y
theorem CxR.call {P : Program} {f : FuncId} {args : Array Value} {X Y : Nat} {W : World} (h : Calls P f args W (CxR X Y W)) : Calls P f args W (fun e w' => ∃ v, e = .returned v ∧ isCx X Y v ∧ Ext W w') :=
  h.mono fun _ _ ⟨x, y, he, hx, hy, hw⟩ => ⟨_, he, ⟨x, y, rfl, hx, hy⟩, hw⟩
def SpSine (RE IM : Int → Nat → Nat) (args : Array Value) (v : Value) : Prop := ∃ (u : Int) (x : Nat), args = #[.int .i64 u, .float .f64 x] ∧ isCx (RE u (can x)) (IM u (can x)) v
theorem spSine_iff (RE IM : Int → Nat → Nat) (u : Int) (x : Nat) (v : Value) : SpSine RE IM #[.int .i64 u, .float .f64 x] v ↔ isCx (RE u (can x)) (IM u (can x)) v := by
  unfold SpSine
  exact ⟨fun ⟨_, _, h, k⟩ => by simp at h; obtain ⟨rfl, rfl⟩ := h; exact k, fun h => ⟨_, _, rfl, h⟩⟩
def SpTimes (args : Array Value) (v : Value) : Prop := ∃ f x y : Nat, args = #[.float .f64 f, .complex .f64 x y] ∧ isCx (fmul (can f) (can x)) (fmul (can f) (can y)) v
theorem spTimes_iff (f x y : Nat) (v : Value) : SpTimes #[.float .f64 f, .complex .f64 x y] v ↔ isCx (fmul (can f) (can x)) (fmul (can f) (can y)) v := by
  unfold SpTimes
  exact ⟨fun ⟨_, _, _, h, k⟩ => by simp at h; obtain ⟨rfl, rfl, rfl⟩ := h; exact k, fun h => ⟨_, _, _, rfl, h⟩⟩
def FZ (g : FuncId) (args : Array Value) (v : Value) : Prop := (g = 61 ∧ SpSine sinRe sinIm args v) ∨ (g = 60 ∧ SpTimes args v)
theorem row_at {T : Nat → List Nat} {c f y0 y1 y2 y3 : Nat} (h : can y0 = rowS T c f 0 ∧ can y1 = rowS T c f 1 ∧ can y2 = rowS T c f 2 ∧ can y3 = rowS T c f 3) (k : Nat) (hk : k < 4) :
    ∃ y, (#[.float .f64 y0, .float .f64 y1, .float .f64 y2, .float .f64 y3] : Array Value)[k]? = some (.float .f64 y) ∧ can y = rowS T c f k := by
  obtain ⟨h0, h1, h2, h3⟩ := h
  rcases k with _ | _ | _ | _ | k
  · exact ⟨y0, rfl, h0⟩
  · exact ⟨y1, rfl, h1⟩
  · exact ⟨y2, rfl, h2⟩
  · exact ⟨y3, rfl, h3⟩
  · omega

set_option maxHeartbeats 8000000 in
theorem sto_ok {A : Nat → Addr} (a f : Nat) (mid : Int) (sc : Nat) (lon lat : Int) (w : World) (h8 : World8 A w) (hk : strP (okG a f) sc = 0) (hl : lookK 0 lat (signP (dS mid lon)) = 0) :
    Calls Tryd.prog 20 #[stripV a f mid sc, placeU lon lat] w (fun e w' => ∃ x y, e = .returned (.tuple #[flatU x y, .nilIface]) ∧ can x = stripX a f sc (uS f lat (dS mid lon)) (vS f lat (dS mid lon)) ∧ can y = stripY a f sc (uS f lat (dS mid lon)) (vS f lat (dS mid lon)) ∧ Ext w w') := by
  have HL := Lib.hid (fun w h8 => look_ok (A := A) a f mid sc lon lat w h8 hk hl)
  have HS := Lib.hid (fun w h8 => series_ok (A := A) a f w h8 (strP_ok hk).1)
  clear hk hl
  generalize dS mid lon = d at *
  have hu : -180000000000 ≤ uS f lat d ∧ uS f lat d ≤ 180000000000 := signP_range _
  generalize uS f lat d = u at *
  obtain ⟨u1, u2⟩ := hu
  generalize vS f lat d = V at *
  generalize tS f lat = T at *
  go_enter Tryd.func20, Tryd.ntmps20
  go_wp2_with (first
    | (go_at_call 58; go_must (refine (HL.out _ (h8.ext (by repeat (first | exact Ext.refl _ | refine Ext.alloc ?_ _)))).mono ?_; rintro e w1 ⟨t, v, rfl, ht, hv, hx⟩; obtain ⟨hb1, hb2, hb3, hw⟩ := ext3 hx; have c1 := hb1.cell; have c2 := hb2.cell; have k1 : ∀ o i, (w1.alloc o).cell? ⟨w.heap.size, i, none⟩ = #[Value.float .f64 a, Value.float .f64 f, Value.int .i64 mid, Value.float .f64 sc][i]? := (fun o i => (hb1.ext ((Ext.refl w1).alloc o)).cell i); clear hx))
    | (go_at_call 59; go_must (refine (HS.out _ (h8.ext (hw.alloc _))).mono ?_; rintro e w2 ⟨r, y0, y1, y2, y3, x0, x1, x2, x3, rfl, hr, hA, _, hx⟩; obtain ⟨hbW, hx'⟩ := ext1 hx; replace hw := hw.trans hx'; replace hb1 := hb1.ext hx'; replace hb3 := hb3.ext hx'; clear hx hx' hb2 c1 c2 k1; have hA' := Lib.hid hA; clear hA; have c1 := hb1.cell; have cW := hbW.cell; have kW : ∀ o o' i, ((w2.alloc o).alloc o').cell? ⟨w1.heap.size, i, none⟩ = #[Value.float .f64 t, Value.int .i64 d, Value.int .i64 u, Value.float .f64 v][i]? := (fun o o' i => (hbW.ext (((Ext.refl w2).alloc o).alloc o')).cell i)))
    | (with_reducible refine upon_fl rfl ?_; intro rz nz hrz))
  have hbA := (Blk.new w2 #[.float .f64 y0, .float .f64 y1, .float .f64 y2, .float .f64 y3] 99).ext ((Ext.refl _).alloc (.cells #[.float .f64 x0, .float .f64 x1, .float .f64 x2, .float .f64 x3] 99))
  have eA : Ext w2 ((w2.alloc (.cells #[.float .f64 y0, .float .f64 y1, .float .f64 y2, .float .f64 y3] 99)).alloc (.cells #[.float .f64 x0, .float .f64 x1, .float .f64 x2, .float .f64 x3] 99)) := ((Ext.refl w2).alloc _).alloc _
  replace hw := hw.trans eA
  replace hb1 := hb1.ext eA
  replace hb3 := hb3.ext eA
  replace hbW := hbW.ext eA
  clear c1 cW kW eA
  obtain ⟨CA, hCA⟩ : ∃ C : Array Value, C = #[.float .f64 y0, .float .f64 y1, .float .f64 y2, .float .f64 y3] := ⟨_, rfl⟩
  have HCA := Lib.hid hCA
  clear hCA
  have RZ := Lib.hid hrz
  clear hrz
  go_loopw [12, 40] (fun zv iv wr => ∃ (k x y : Nat), zv = .complex .f64 x y ∧ iv = .int .i64 k ∧ k ≤ 4 ∧ can x = zRe tabA cA4 f u V (fmul (can (floatOfInt .f64 u)) (can cRadS)) k ∧ can y = zIm tabA cA4 f u V V k ∧ Ext w wr ∧ Blk wr w.heap.size 56 #[.float .f64 a, .float .f64 f, .int .i64 mid, .float .f64 sc] ∧ Blk wr w1.heap.size 96 #[.float .f64 t, .int .i64 d, .int .i64 u, .float .f64 v] ∧ Blk wr w2.heap.size 99 CA ∧ Blk wr (w.heap.size + 1 + 1) 53 #[.float .f64 0, .float .f64 0]) (fun _ iv _ => 4 - (RowKit.intOf iv).toNat)
  case atStart => exact ⟨0, _, _, rfl, rfl, by omega, RZ.out, hv, by repeat (first | exact hw | refine Ext.drewN ?_ _), hb1, hbW, (by rw [HCA.out]; exact hbA), hb3⟩
  case round =>
    clear hw hb1 hb3 hbW hbA
    obtain ⟨k, x, y, rfl, rfl, hk, hx, hy, hw, hb1, hbW, hbA, hb3⟩ := hrel
    have HX := Lib.hid hx
    have HY := Lib.hid hy
    clear hx hy
    have tkX : Hid True := trivial
    rcases Nat.lt_or_ge k 4 with hlt | hge
    · obtain ⟨m1, m2⟩ := mul_range k hlt u u1 u2
      obtain ⟨J, hJ⟩ : ∃ J : Int, J = (k : Int) + 1 := ⟨_, rfl⟩
      obtain ⟨J2, hJ2⟩ : ∃ J2 : Int, J2 = 2 * J := ⟨_, rfl⟩
      obtain ⟨M, hM⟩ : ∃ M : Int, M = J2 * u := ⟨_, rfl⟩
      have WA : IntKind.i64.wrap ((k : Int) + 1) = J := by rw [hJ]; exact IntWalk.i64_in _ ⟨by omega, by omega⟩
      have WB : IntKind.i64.wrap (2 * J) = J2 := by rw [hJ2]; exact IntWalk.i64_in _ ⟨by omega, by omega⟩
      have hM2 : M = 2 * ((k : Int) + 1) * u := by rw [hM, hJ2, hJ]
      have WC : IntKind.i64.wrap (J2 * u) = M := by rw [← hM]; exact IntWalk.i64_in _ ⟨by rw [hM2]; omega, by rw [hM2]; omega⟩
      have K1 : (k : Int) < 4 := by omega
      obtain ⟨yk, EY, hyk⟩ := row_at hA'.out k hlt
      rw [← HCA.out] at EY
      have HM := Lib.hid hM2
      have HJ0 := Lib.hid hJ
      have HJ : Hid (J2 = 2 * ((k : Int) + 1)) := Lib.hid (by rw [hJ2, hJ])
      clear hM hM2 hJ hJ2 m1 m2 RZ tkX
      go_wp2_with fail
      refine wp_region_all FZ (by kernel_rfl) (by kernel_rfl) ?_
      repeat (first
        | (refine wpR_op rfl (fun w9 hw9 K hK => ?_); have k2 := (hbW.ext (bareN hw9 rfl rfl rfl rfl)).cell; have k3 := (hbA.ext (bareN hw9 rfl rfl rfl rfl)).cell; go_simp; refine hK _ ?_; clear hK K k2 k3 hw9 w9)
        | (refine wpR_op rfl (fun w9 hw9 K hK => ?_); go_simp; refine rel_fl rfl ?_; intro fv hfv; refine hK _ ?_; clear hK K hw9 w9)
        | (refine wpR_op rfl (fun w9 hw9 K hK => ?_); go_simp; refine rel_call (CxR.call (sine_c _ _ _)) (fun v => ?_) (fun v hv => ?_); (simp [FZ, spSine_iff]); obtain ⟨sx, sy, rfl, hsx, hsy⟩ := hv; refine hK _ ?_; clear hK K hw9 w9)
        | (refine wpR_op rfl (fun w9 hw9 K hK => ?_); go_simp; refine rel_call (CxR.call (times_c _ _ _ _)) (fun v => ?_) (fun v hv => ?_); (simp [FZ, spTimes_iff]); obtain ⟨tx, ty, rfl, htx, hty⟩ := hv; refine hK _ ?_; clear hK K hw9 w9)
        | (refine wpR_op rfl (fun w9 hw9 K hK => ?_); go_simp; refine rel_cx rfl ?_; intro zx zy hzx hzy; refine hK _ ?_; clear hK K hw9 w9))
      refine wpR_nil ?_
      intro w8 hx8 _
      replace hw := hw.trans (bareN hx8 rfl rfl rfl rfl)
      replace hb3 := hb3.ext (bareN hx8 rfl rfl rfl rfl)
      replace hbW := hbW.ext (bareN hx8 rfl rfl rfl rfl)
      replace hbA := hbA.ext (bareN hx8 rfl rfl rfl rfl)
      replace hb1 := hb1.ext (bareN hx8 rfl rfl rfl rfl)
      clear hx8
      go_wp2_with fail
      go_roundw
      case rel =>
        refine ⟨k + 1, zx, zy, rfl, by rw [HJ0.out]; simp, by omega, ?_, ?_, hw, hb1, hbW, hbA, hb3⟩
        · rw [hzx, HX.out, htx, hsx, hfv, hyk, HM.out, HJ.out, hv]; rfl
        · rw [hzy, HY.out, hty, hsy, hfv, hyk, HM.out, HJ.out, hv]; rfl
      case measure =>
        have hj := HJ0.out
        simp [RowKit.intOf]; omega
    · have h4 : k = 4 := by omega
      subst h4
      have c1 := hb1.cell
      go_wp2_with (first
        | (refine wpList_own rfl 53 _ _ rfl _ _ rfl rfl _ _ hb3 (by kernel_rfl) rfl (by simp [Value.oneCell']) ?_; go_must (intro wz bn en sn; replace hw := en w (by repeat (first | exact hw | refine Ext.drewN ?_ _)) (by omega); have kc := bn.cell; clear sn en hb3))
        | (clear RZ; with_reducible refine upon_fl rfl ?_; intro R nR hR)
        | (clear tkX; with_reducible refine upon_fl rfl ?_; intro fx nx hfx)
        | (with_reducible refine upon_fl rfl ?_; intro fy ny hfy))
      refine bodyPost_ret (v := .tuple #[flatU fx fy, .nilIface]) (by simp [results, Tryd.results20, go_sem, kc]) rfl ⟨fx, fy, rfl, ?_, ?_, hw⟩
      · rw [hfx, hR, hr, HY.out]; rfl
      · rw [hfy, hR, hr, HX.out]; rfl
end Go.Proofs.YtddjppaccpioiaaDoor
