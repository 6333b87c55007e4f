/- Walks: sums of complex numbers; a number times one; the reference's plus. -/
import Derived.Test.YtmmifmlkhmdgaaaGreatDoorHN
import Derived.Test.YtmmifmlkhmdgaaaGreatDoorHL
namespace Go.Rel
open Go.RowKit Go.Fp
theorem run_carith' {P : Program} (w : World) {op : BinOp} (h : isArith op = true) (x y : Nat) : ∃ r n, (Op.Complex.arith op .f64 x y).run P w = .ok r (w.drewN n) ∧ can r = fbin op (can x) (can y) := by
  obtain ⟨r, n, e, hr⟩ := run_fl (P := P) w h x y 0
  refine ⟨r, n, ?_, hr⟩
  have e2 : (binOp op 0 (.float .f64 x) (.float .f64 y)).run P w = (Op.floatArith op .f64 x y).run P w := by cases op <;> first | (cases h; done) | rfl
  rw [e2] at e
  simp [Op.Complex.arith, e]
def isSum : BinOp → Bool
  | .add => true
  | .sub => true
  | _ => false
theorem run_cx {P : Program} (w : World) {op : BinOp} (h : isSum op = true) (a b c d : Nat) (t : TypeId) :
    ∃ x y n, (binOp op t (.complex .f64 a b) (.complex .f64 c d)).run P w = .ok (.complex .f64 x y) (w.drewN n) ∧ can x = fbin op (can a) (can c) ∧ can y = fbin op (can b) (can d) := by
  have h' : isArith op = true := by cases op <;> first | (cases h; done) | rfl
  obtain ⟨x, n, e1, hx⟩ := run_carith' (P := P) w h' a c
  obtain ⟨y, m, e2, hy⟩ := run_carith' (P := P) (w.drewN n) h' b d
  refine ⟨x, y, n + m, ?_, hx, hy⟩
  cases op <;> first | (cases h; done) | skip
  all_goals
    simp [binOp, Op.complexOp, e1, e2]
theorem upon_cx {P : Program} {o : Oper} {a : Act} {K : Act → World → Prop} {Q : Exit → Act → World → Prop} {W : World} {t : TypeId} {op : BinOp} {p q r s : Nat} (hop : isSum op = true)
    (h : ∀ x y n, can x = fbin op (can p) (can r) → can y = fbin op (can q) (can s) → o.upon P a K Q (.ok (.value (.complex .f64 x y)) (W.drewN n))) :
    o.upon P a K Q (((binOp op t (.complex .f64 p q) (.complex .f64 r s)).run P W).andThen fun v w' => .ok (.value v) w') := by
  obtain ⟨x, y, n, e, hx, hy⟩ := run_cx (P := P) W hop p q r s t
  rw [e]
  exact h x y n hx hy
theorem rel_cx {P : Program} {F : FuncId → Array Value → Value → Prop} {W : World} {K : Value → Prop} {t : TypeId} {op : BinOp} {p q r s : Nat} (hop : isSum op = true)
    (h : ∀ x y, can x = fbin op (can p) (can r) → can y = fbin op (can q) (can s) → K (.complex .f64 x y)) : relUpon P F W K (((binOp op t (.complex .f64 p q) (.complex .f64 r s)).run P W).andThen fun v w' => .ok (.value v) w') := by
  obtain ⟨x, y, n, e, hx, hy⟩ := run_cx (P := P) W hop p q r s t
  rw [e]
  exact ⟨(Ext.refl _).drewN _, h x y hx hy⟩
end Go.Rel
namespace Go.Proofs.YtmmifmlkhmdgaaaGreatDoor
open Go.RowKit Go.Fp Go.Rel
set_option maxRecDepth 20000

theorem times_c (f x y : Nat) (w : World) : Calls Tryz.prog 22 #[.float .f64 f, .complex .f64 x y] w (CxR (fmul (can f) (can x)) (fmul (can f) (can y)) w) := by
  go_enter Tryz.func22, Tryz.ntmps22
  go_wp2_with (first
    | (with_reducible refine upon_fl rfl ?_; intro r n hr))
  go_ret
  exact ⟨_, _, rfl, by simp only [*, fbin], by simp only [*, fbin], by repeat (first | exact Ext.refl _ | refine Ext.drewN ?_ _)⟩
def SpPlus (args : Array Value) (v : Value) : Prop := ∃ x y z : Nat, args = #[.float .f64 x, .float .f64 y, .float .f64 z] ∧ isFl (fadd (can x) (fmul (can y) (can z))) v
theorem spPlus_iff (x y z : Nat) (v : Value) : SpPlus #[.float .f64 x, .float .f64 y, .float .f64 z] v ↔ isFl (fadd (can x) (fmul (can y) (can z))) v := by
  unfold SpPlus
  exact ⟨fun ⟨_, _, _, h, k⟩ => by simp at h; obtain ⟨rfl, rfl, rfl⟩ := h; exact k, fun h => ⟨_, _, _, rfl, h⟩⟩
def PairR (X Y : Nat) (w : World) (e : Ending) (w' : World) : Prop := ∃ x y, e = .returned (.agg #[.float .f64 x, .float .f64 y]) ∧ can x = X ∧ can y = Y ∧ Ext w w'
set_option maxHeartbeats 4000000 in
theorem plusP_c (zr zi f wr wi : Nat) (w : World) : Calls Tryz.prog 37 #[.agg #[.float .f64 zr, .float .f64 zi], .float .f64 f, .agg #[.float .f64 wr, .float .f64 wi]] w
    (PairR (fadd (can zr) (fmul (can f) (can wr))) (fadd (can zi) (fmul (can f) (can wi))) w) := by
  obtain ⟨hb1, hb2, hb3, hw⟩ := ext3 (Ext.refl (((w.alloc (.cells #[.float .f64 zr, .float .f64 zi] 82)).alloc (.cells #[.float .f64 wr, .float .f64 wi] 82)).alloc (.cells #[.float .f64 0, .float .f64 0] 82)))
  have tk1 : Hid True := trivial
  go_enter Tryz.func37, Tryz.ntmps37
  go_wp2_with fail
  refine wp_region_head 13 (fun g args v => g = 40 ∧ SpPlus args v) (by kernel_rfl) (by kernel_rfl) ?_
  simp only [List.take_succ_cons, List.take_zero, List.drop_succ_cons, List.drop_zero]
  repeat (first
    | (refine wpR_op rfl (fun w9 hw9 K hK => ?_); have k1 := (hb1.ext (bareN hw9 rfl rfl rfl rfl)).cell; have k2 := (hb2.ext (bareN hw9 rfl rfl rfl rfl)).cell; go_simp; refine hK _ ?_; clear hK K k1 k2 hw9 w9)
    | (refine wpR_op rfl (fun w9 hw9 K hK => ?_); clear tk1; go_simp; refine rel_call (FlR.call (plus_c _ _ _ _)) (fun v => ?_) (fun v hv => ?_); (simp [spPlus_iff]); obtain ⟨r1, rfl, hr1⟩ := hv; refine hK _ ?_; clear hK K hw9 w9)
    | (refine wpR_op rfl (fun w9 hw9 K hK => ?_); go_simp; refine rel_call (FlR.call (plus_c _ _ _ _)) (fun v => ?_) (fun v hv => ?_); (simp [spPlus_iff]); obtain ⟨r2, rfl, hr2⟩ := hv; refine hK _ ?_; clear hK K hw9 w9))
  refine wpR_nil ?_
  intro w8 hx8 _
  replace hw := hw.trans (bareN hx8 rfl rfl rfl rfl)
  replace hb3 := hb3.ext (bareN hx8 rfl rfl rfl rfl)
  clear hb1 hb2 hx8
  go_wp2_with (first | (refine wpList_own rfl 82 _ _ rfl _ _ rfl rfl _ _ hb3 (by kernel_rfl) rfl (by simp [Value.oneCell']) ?_; go_must (intro u bn en sn; replace hw := en w hw (by omega); have kc := bn.cell; clear sn en hb3)))
  exact bodyPost_ret (v := .agg #[.float .f64 r1, .float .f64 r2]) (by simp [results, Tryz.results37, go_sem, kc]) rfl ⟨r1, r2, rfl, hr1, hr2, hw⟩
end Go.Proofs.YtmmifmlkhmdgaaaGreatDoor
