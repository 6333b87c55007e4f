/- Walks: From the other frame, package globe's. -/
import Derived.Test.YtmmifmlkhmdgaaaDoorJK
import Derived.Deep.RegionHeld3
import Derived.Deep.DeepCutAuto
namespace Go.Fp
open Ieee
theorem fin_sub {x y : Nat} (hx : Fin x) (hy : Fin y) : D.sub x y = some (fsub x y) := by
  obtain ⟨s, m, i, hx⟩ := hx
  obtain ⟨t, n, j, hy⟩ := hy
  have e : ∃ r, D.sub x y = some r := by unfold Format.sub; rw [hx, hy]; exact ⟨_, rfl⟩
  obtain ⟨r, e⟩ := e
  unfold fsub; rw [e]; rfl
theorem fin_add {x y : Nat} (hx : Fin x) (hy : Fin y) : D.add x y = some (fadd x y) := by
  obtain ⟨s, m, i, hx⟩ := hx
  obtain ⟨t, n, j, hy⟩ := hy
  have e : ∃ r, D.add x y = some r := by unfold Format.add; rw [hx, hy]; exact ⟨_, rfl⟩
  obtain ⟨r, e⟩ := e
  unfold fadd; rw [e]; rfl
theorem fin_mul {x y : Nat} (hx : Fin x) (hy : Fin y) : D.mul x y = some (fmul x y) := by
  obtain ⟨s, m, i, hx⟩ := hx
  obtain ⟨t, n, j, hy⟩ := hy
  have e : ∃ r, D.mul x y = some r := by unfold Format.mul; rw [hx, hy]; exact ⟨_, rfl⟩
  obtain ⟨r, e⟩ := e
  unfold fmul; rw [e]; rfl
theorem fin_div {x y : Nat} (hx : Fin x) (hy : Fin y) (h0 : vl y ≠ 0) : D.div x y = some (fdiv x y) := by
  obtain ⟨s, m, i, hx⟩ := hx
  obtain ⟨t, n, j, hy⟩ := hy
  have hn : n ≠ 0 := by
    rintro rfl
    exact h0 (by rw [vl_of hy]; unfold vd; simp)
  have e : ∃ r, D.div x y = some r := by
    unfold Format.div Datum.quotient
    rw [hx, hy]
    simp [hn]
  obtain ⟨r, e⟩ := e
  unfold fdiv; rw [e]; rfl
/-- a number and a bound -/
def FB (x : Nat) (B : Rat) : Prop := Fin x ∧ Wn (vl x) B
theorem fb_sub {x y : Nat} {A B : Rat} (hx : FB x A) (hy : FB y B) (h : A + B ≤ 100000000000) : D.sub x y = some (fsub x y) ∧ FB (fsub x y) (A + B + 1) := by
  obtain ⟨f, e⟩ := subE hx.1 hy.1 (A + B) (wn_sub hx.2 hy.2) (by grind)
  refine ⟨fin_sub hx.1 hy.1, f, ?_⟩
  have := wn_sub hx.2 hy.2
  rw [uu_eq] at e
  obtain ⟨_, _⟩ := e
  obtain ⟨_, _⟩ := this
  constructor <;> grind
theorem fb_div {x y : Nat} {A : Rat} (hx : FB x A) (hy : Fin y) (h0 : 1 / 2 ≤ vl y) (h : A ≤ 100000000000) : D.div x y = some (fdiv x y) ∧ FB (fdiv x y) (2 * A + 1) := by
  have hne : vl y ≠ 0 := by grind
  have hd := div_half hx.2 h0
  obtain ⟨f, e⟩ := divE hx.1 hy hne (2 * A) hd (by grind)
  refine ⟨fin_div hx.1 hy hne, f, ?_⟩
  rw [uu_eq] at e
  obtain ⟨_, _⟩ := e
  obtain ⟨_, _⟩ := hd
  constructor <;> grind
end Go.Fp
namespace Go.Proofs.YtmmifmlkhmdgaaaDoor
open Go.RowKit Go.Fp Go.Rel
set_option maxRecDepth 20000

theorem of_can {x c : Nat} (h : can x = c) (hc : isNan c = false) : x = c := by
  cases hn : isNan x
  · rw [can_of_not hn] at h; exact h
  · rw [can_of_nan hn] at h
    subst h
    exact absurd hc (by decide +kernel)
theorem notNan_fin {x : Nat} (h : Fp.Fin x) : isNan x = false := by
  obtain ⟨s, m, j, h⟩ := h
  unfold isNan
  rw [h]; rfl
theorem co_runs {x X k : Nat} (hx : inn x c1e10 m1e10 = true) (hX : inn X c1e5 m1e5 = true) (hk : Fp.Fin k) (hk0 : 1 / 2 ≤ vl k) :
    (∀ t w, (binOp .sub t (.float .f64 x) (.float .f64 X)).run Tryd.prog w = .ok (.float .f64 (fsub x X)) w) ∧ (∀ t w, (binOp .quo t (.float .f64 (fsub x X)) (.float .f64 k)).run Tryd.prog w = .ok (.float .f64 (coD x X k)) w) := by
  obtain ⟨fx, x1, x2⟩ := inn_vl v_1e10 v_m1e10 hx
  obtain ⟨fX, X1, X2⟩ := inn_vl v_1e5 v_m1e5 hX
  obtain ⟨e1, b1⟩ := fb_sub (A := 10000000000) (B := 100000) ⟨fx, by grind, x2⟩ ⟨fX, by grind, X2⟩ (by grind)
  obtain ⟨e2, _⟩ := fb_div b1 hk hk0 (by grind)
  exact ⟨fun t w => run_float_arith w .sub t .f64 _ _ _ e1, fun t w => run_float_arith w .quo t .f64 _ _ _ e2⟩

theorem three_new (w2 : World) (c1 c2 c3 : Array Value) (t : TypeId) : Ext w2 (((w2.alloc (.cells c1 t)).alloc (.cells c2 t)).alloc (.cells c3 t)).drew ∧ Blk (((w2.alloc (.cells c1 t)).alloc (.cells c2 t)).alloc (.cells c3 t)).drew w2.heap.size t c1 ∧ Blk (((w2.alloc (.cells c1 t)).alloc (.cells c2 t)).alloc (.cells c3 t)).drew (w2.heap.size + 1) t c2 ∧ Blk (((w2.alloc (.cells c1 t)).alloc (.cells c2 t)).alloc (.cells c3 t)).drew (w2.heap.size + 1 + 1) t c3 := by
  obtain ⟨h1, h2, h3, hx⟩ := ext3 (Ext.refl (((w2.alloc (.cells c1 t)).alloc (.cells c2 t)).alloc (.cells c3 t)))
  exact ⟨hx.drew, h1, h2, h3⟩
set_option maxHeartbeats 4000000 in
theorem clo_c (p q r x y z n n8 n9 n10 n17 : Nat) (w : World) (h8 : Blk w n8 tFl #[.float .f64 x]) (h9 : Blk w n9 tFl #[.float .f64 y]) (h10 : Blk w n10 tFl #[.float .f64 z]) (h17 : Blk w n17 tFl #[.float .f64 n]) :
    Calls Tryd.prog 61 #[.float .f64 p, .float .f64 q, .float .f64 r, ptr n8, ptr n9, ptr n10, ptr n17] w (FlR (rowD (can p) (can q) (can r) (can x) (can y) (can z) (can n)) w) := by
  have k8 := h8.cell
  have k9 := h9.cell
  have k10 := h10.cell
  have k17 := h17.cell
  go_enter Tryd.func61, Tryd.ntmps61
  go_wp2_with (first
    | (with_reducible refine upon_fl rfl ?_; intro r n hr))
  go_ret
  refine ⟨_, rfl, ?_, by repeat (first | exact Ext.refl _ | refine Ext.drewN ?_ _)⟩
  simp only [*, fbin, rowD]
def SpClo (PX PY PZ N : Nat) (args : Array Value) (v : Value) : Prop := ∃ (p q r : Nat) (a b c d : Value), args = #[.float .f64 p, .float .f64 q, .float .f64 r, a, b, c, d] ∧ isFl (rowD (can p) (can q) (can r) PX PY PZ N) v
theorem spClo_iff (PX PY PZ N p q r : Nat) (a b c d v : Value) : SpClo PX PY PZ N #[.float .f64 p, .float .f64 q, .float .f64 r, a, b, c, d] v ↔ isFl (rowD (can p) (can q) (can r) PX PY PZ N) v := by
  unfold SpClo
  exact ⟨fun ⟨_, _, _, _, _, _, _, h, k⟩ => by simp at h; obtain ⟨rfl, rfl, rfl, _⟩ := h; exact k, fun h => ⟨_, _, _, _, _, _, _, rfl, h⟩⟩
theorem mf_from (first : Array Value) (cap : Array Value) (w : World) : (Instr.makeFunc (.func 61) first cap).run Tryd.prog w = .ok (.func (.func 61) first cap) w := rfl
theorem cellsD {w' : World} {n : Nat} {tD tV : TypeId} {X Y Z A B C S x y z : Nat} (h1 : Blk w' n tD #[Value.float .f64 X, Value.float .f64 Y, Value.float .f64 Z, Value.float .f64 A, Value.float .f64 B, Value.float .f64 C, Value.float .f64 S]) (h2 : Blk w' (n + 1) tV #[Value.float .f64 x, Value.float .f64 y, Value.float .f64 z]) :
    w'.cell? ⟨n, 0, none⟩ = some (.float .f64 X) ∧ w'.cell? ⟨n, 1, none⟩ = some (.float .f64 Y) ∧ w'.cell? ⟨n, 2, none⟩ = some (.float .f64 Z) ∧ w'.cell? ⟨n + 1, 0, none⟩ = some (.float .f64 x) ∧ w'.cell? ⟨n + 1, 1, none⟩ = some (.float .f64 y) ∧ w'.cell? ⟨n + 1, 2, none⟩ = some (.float .f64 z) :=
  ⟨h1.cell 0, h1.cell 1, h1.cell 2, h2.cell 0, h2.cell 1, h2.cell 2⟩
set_option maxHeartbeats 8000000 in
theorem dfrom_ok {A0 : Nat → Addr} (X Y Z A B C S x y z : Nat) (w : World) (h8 : World8 A0 w) (hd : okD X Y Z A B C S = true) (hv : okV x y z = true) :
    Calls Tryd.prog 16 #[datV X Y Z A B C S, vecU x y z] w (VeE (frX (can A) (can B) (can C) (coD x X (kD S)) (coD y Y (kD S)) (coD z Z (kD S))) (frY (can A) (can B) (can C) (coD x X (kD S)) (coD y Y (kD S)) (coD z Z (kD S))) (frZ (can A) (can B) (can C) (coD x X (kD S)) (coD y Y (kD S)) (coD z Z (kD S))) .nilIface w) := by
  have HC0 := fun w h8 => check_c (A0 := A0) X Y Z A B C S x y z w h8
  rw [hd, hv] at HC0
  have HC := Lib.hid HC0
  unfold okD at hd
  unfold okV at hv
  simp only [Bool.and_eq_true] at hd hv
  obtain ⟨⟨⟨⟨⟨⟨dX, dY⟩, dZ⟩, dA⟩, dB⟩, dC⟩, dS⟩ := hd
  obtain ⟨⟨vx, vy⟩, vz⟩ := hv
  obtain ⟨fk, _, fk0⟩ := kD_ok dS
  have HL : Hid (∀ w, Calls Tryd.prog 60 #[datV X Y Z A B C S] w (ExR (.float .f64 (kD S)) w)) := Lib.hid (fun w => (longer_c X Y Z A B C S w).mono (fun _ _ ⟨r, he, hr, hx⟩ => ⟨by
    have hS : can S = S := (inn_vl v_1e3 v_m1e3 dS).1.can
    rw [hS] at hr
    rw [he, of_can hr (notNan_fin fk)], hx⟩))
  obtain ⟨r1, r2⟩ := co_runs vx dX fk fk0
  obtain ⟨r3, r4⟩ := co_runs vy dY fk fk0
  obtain ⟨r5, r6⟩ := co_runs vz dZ fk fk0
  clear HC0 dX dY dZ dA dB dC dS vx vy vz fk fk0
  generalize kD S = k at *
  have hpx : Hid (can (coD x X k) = coD x X k ∧ can (coD y Y k) = coD y Y k ∧ can (coD z Z k) = coD z Z k) := Lib.hid ⟨can_fdiv _ _, can_fdiv _ _, can_fdiv _ _⟩
  generalize coD x X k = px at *
  generalize coD y Y k = py at *
  generalize coD z Z k = pz at *
  generalize fsub x X = sx at *
  generalize fsub y Y = sy at *
  generalize fsub z Z = sz at *
  go_enter Tryd.func16, Tryd.ntmps16
  go_wp2_with (first
    | (go_at_call 59; go_must (refine (HC.out _ (h8.ext (by repeat (first | exact Ext.refl _ | refine Ext.alloc ?_ _)))).mono ?_; rintro e w1 ⟨v, rfl, hv, hx⟩; cases hv; obtain ⟨hb1, hb2, hb3, hw⟩ := ext3 hx; clear hx; have c1 := hb1.cell; have c2 := hb2.cell))
    | (go_at_call 60; go_must (refine (HL.out _).mono ?_; rintro e w2 ⟨rfl, hx⟩; replace hw := hw.trans (bareN hx rfl rfl rfl rfl); replace hb1 := hb1.ext (bareN hx rfl rfl rfl rfl); replace hb2 := hb2.ext (bareN hx rfl rfl rfl rfl); replace hb3 := hb3.ext (bareN hx rfl rfl rfl rfl); clear hx c1 c2; have c1 := hb1.cell; have c2 := hb2.cell)))
  have hsz := hw.size
  go_cut [8, 9, 10] (fun s1 s2 s3 wx => ∃ (n8 n9 n10 : Nat), s1 = ptr n8 ∧ s2 = ptr n9 ∧ s3 = ptr n10 ∧ Ext w wx ∧ Blk wx w.heap.size 44 #[Value.float .f64 X, Value.float .f64 Y, Value.float .f64 Z, Value.float .f64 A, Value.float .f64 B, Value.float .f64 C, Value.float .f64 S] ∧ Blk wx (w.heap.size + 1 + 1) 29 #[.float .f64 0, .float .f64 0, .float .f64 0] ∧ Blk wx n8 tFl #[.float .f64 px] ∧ Blk wx n9 tFl #[.float .f64 py] ∧ Blk wx n10 tFl #[.float .f64 pz])
  case first =>
    go_region_held3 (fun w' => w'.cell? ⟨w.heap.size, 0, none⟩ = some (.float .f64 X) ∧ w'.cell? ⟨w.heap.size, 1, none⟩ = some (.float .f64 Y) ∧ w'.cell? ⟨w.heap.size, 2, none⟩ = some (.float .f64 Z) ∧ w'.cell? ⟨w.heap.size + 1, 0, none⟩ = some (.float .f64 x) ∧ w'.cell? ⟨w.heap.size + 1, 1, none⟩ = some (.float .f64 y) ∧ w'.cell? ⟨w.heap.size + 1, 2, none⟩ = some (.float .f64 z))
      (refine cellsD (hb1.ext ?_) (hb2.ext ?_) <;> (repeat (first | exact Ext.refl _ | refine Ext.drew ?_ | refine Ext.alloc ?_ _ | refine Ext.setCell ?_ (by omega) _)))
      (fail)
    all_goals
      (try go_wp2_with fail)
      go_meet
      refine ⟨_, _, _, rfl, rfl, rfl, hw.trans (three_new _ _ _ _ _).1, hb1.ext (three_new _ _ _ _ _).1, hb3.ext (three_new _ _ _ _ _).1, ?_, ?_, ?_⟩
    all_goals first
      | exact (three_new _ _ _ _ _).2.1
      | exact (three_new _ _ _ _ _).2.2.1
      | exact (three_new _ _ _ _ _).2.2.2
  case rest =>
    clear hw hb1 hb2 hb3 c1 c2 r1 r2 r3 r4 r5 r6 hsz
    obtain ⟨n8, n9, n10, rfl, rfl, rfl, hw, hb1, hb3, h8, h9, h10⟩ := hcut
    go_wp2_with fail
    refine wp_region_all (fun _ _ _ => False) (by kernel_rfl) (by kernel_rfl) ?_
    repeat (first
    | (refine wpR_op rfl (fun w9 hw9 K hK => ?_); have k0 := (hb1.ext (bareN hw9 rfl rfl rfl rfl)).cell; go_simp; refine hK _ ?_; clear hK K k0 hw9 w9)
    | (refine wpR_op rfl (fun w9 hw9 K hK => ?_); go_simp; refine rel_fl rfl ?_; intro r hr; refine hK _ ?_; clear hK K hw9 w9))
    refine wpR_nil ?_
    intro w8 hx8 _
    replace hw := hw.trans (bareN hx8 rfl rfl rfl rfl)
    replace hb1 := hb1.ext (bareN hx8 rfl rfl rfl rfl)
    replace hb3 := hb3.ext (bareN hx8 rfl rfl rfl rfl)
    replace h8 := h8.ext (bareN hx8 rfl rfl rfl rfl)
    replace h9 := h9.ext (bareN hx8 rfl rfl rfl rfl)
    replace h10 := h10.ext (bareN hx8 rfl rfl rfl rfl)
    clear hx8
    go_wp2_with fail
    refine wp_region_all (fun _ _ _ => False) (by kernel_rfl) (by kernel_rfl) ?_
    repeat (first
    | (refine wpR_op rfl (fun w9 hw9 K hK => ?_); have k0 := (hb1.ext (bareN hw9 rfl rfl rfl rfl)).cell; go_simp; refine hK _ ?_; clear hK K k0 hw9 w9)
    | (refine wpR_op rfl (fun w9 hw9 K hK => ?_); go_simp; refine rel_fl rfl ?_; intro r hr; refine hK _ ?_; clear hK K hw9 w9))
    refine wpR_nil ?_
    intro w8 hx8 _
    replace hw := hw.trans (bareN hx8 rfl rfl rfl rfl)
    replace hb1 := hb1.ext (bareN hx8 rfl rfl rfl rfl)
    replace hb3 := hb3.ext (bareN hx8 rfl rfl rfl rfl)
    replace h8 := h8.ext (bareN hx8 rfl rfl rfl rfl)
    replace h9 := h9.ext (bareN hx8 rfl rfl rfl rfl)
    replace h10 := h10.ext (bareN hx8 rfl rfl rfl rfl)
    clear hx8
    have hmf := mf_from
    go_wp2_with (first
      | (with_reducible refine upon_fl rfl ?_; intro r n hr))
    generalize r = rn at *
    have HN : Hid (can rn = nD (can A) (can B) (can C)) := Lib.hid (by simp only [*, fbin, nD, can_one'])
    clear hr
    have e1 : Ext w8 (w8.alloc (.cells #[.float .f64 rn] tFl)) := (Ext.refl _).alloc _
    have h17 := Blk.new w8 #[.float .f64 rn] tFl
    replace hw := hw.trans e1
    replace hb1 := hb1.ext e1
    replace hb3 := hb3.ext e1
    replace h8 := h8.ext e1
    replace h9 := h9.ext e1
    replace h10 := h10.ext e1
    clear e1
    have tkA : Hid True := trivial
    have tkB : Hid True := trivial
    refine wp_region_head 37 (fun g args v => g = 61 ∧ SpClo (can px) (can py) (can pz) (can rn) args v) (by kernel_rfl) (by kernel_rfl) ?_
    simp only [List.take_succ_cons, List.take_zero, List.drop_succ_cons, List.drop_zero]
    repeat (first
      | (refine wpR_op rfl (fun w9 hw9 K hK => ?_); have k0 := (hb1.ext (bareN hw9 rfl rfl rfl rfl)).cell; go_simp; refine hK _ ?_; clear hK K k0 hw9 w9)
      | (refine wpR_op rfl (fun w9 hw9 K hK => ?_); go_simp; refine rel_fl rfl ?_; intro r hr; refine hK _ ?_; clear hK K hw9 w9)
      | (refine wpR_op rfl (fun w9 hw9 K hK => ?_); clear tkA; go_simp; refine rel_call (FlR.call (clo_c _ _ _ px py pz rn n8 n9 n10 w8.heap.size _ (h8.ext (bareN hw9 rfl rfl rfl rfl)) (h9.ext (bareN hw9 rfl rfl rfl rfl)) (h10.ext (bareN hw9 rfl rfl rfl rfl)) (h17.ext (bareN hw9 rfl rfl rfl rfl)))) (fun v => ?_) (fun v hv => ?_); (simp [spClo_iff]); obtain ⟨vX, rfl, hvX⟩ := hv; refine hK _ ?_; clear hK K hw9 w9)
      | (refine wpR_op rfl (fun w9 hw9 K hK => ?_); clear tkB; go_simp; refine rel_call (FlR.call (clo_c _ _ _ px py pz rn n8 n9 n10 w8.heap.size _ (h8.ext (bareN hw9 rfl rfl rfl rfl)) (h9.ext (bareN hw9 rfl rfl rfl rfl)) (h10.ext (bareN hw9 rfl rfl rfl rfl)) (h17.ext (bareN hw9 rfl rfl rfl rfl)))) (fun v => ?_) (fun v hv => ?_); (simp [spClo_iff]); obtain ⟨vY, rfl, hvY⟩ := hv; refine hK _ ?_; clear hK K hw9 w9)
      | (refine wpR_op rfl (fun w9 hw9 K hK => ?_); go_simp; refine rel_call (FlR.call (clo_c _ _ _ px py pz rn n8 n9 n10 w8.heap.size _ (h8.ext (bareN hw9 rfl rfl rfl rfl)) (h9.ext (bareN hw9 rfl rfl rfl rfl)) (h10.ext (bareN hw9 rfl rfl rfl rfl)) (h17.ext (bareN hw9 rfl rfl rfl rfl)))) (fun v => ?_) (fun v hv => ?_); (simp [spClo_iff]); obtain ⟨vZ, rfl, hvZ⟩ := hv; refine hK _ ?_; clear hK K hw9 w9))
    refine wpR_nil ?_
    intro w7 hx8 _
    replace hw := hw.trans (bareN hx8 rfl rfl rfl rfl)
    replace hb3 := hb3.ext (bareN hx8 rfl rfl rfl rfl)
    clear hx8 hb1 h8 h9 h10 h17
    go_wp2_with (first
      | (refine wpList_own rfl 29 _ _ rfl _ _ rfl rfl _ _ hb3 (by kernel_rfl) rfl (by simp [Value.oneCell']) ?_; go_must (intro u bn en sn; replace hw := en w (by repeat (first | exact hw | refine Ext.drewN ?_ _)) (by omega); have kc := bn.cell; clear sn en hb3)))
    obtain ⟨EP1, EP2, EP3⟩ := hpx.out
    have EN := HN.out
    refine bodyPost_ret (v := .tuple #[vecU vX vY vZ, .nilIface]) (by simp [results, Tryd.results16, go_sem, kc]) rfl ⟨vX, vY, vZ, rfl, ?_, ?_, ?_, hw⟩
    all_goals simp only [*, fbin, frX, frY, frZ, can_one']
end Go.Proofs.YtmmifmlkhmdgaaaDoor
