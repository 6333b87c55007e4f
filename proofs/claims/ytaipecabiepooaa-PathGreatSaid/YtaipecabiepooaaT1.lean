/- Walks: points of places on a ball, the program's and the reference's. -/
import Derived.Test.YtaipecabiepooaaR4
namespace Go.Proofs.Ytaipecabiepooaa
open Go.RowKit Go.Fp Go.Rel

def ptX (lon lat : Int) : Nat := fmul (cosP lat) (cosP lon)
def ptY (lon lat : Int) : Nat := fmul (cosP lat) (sinP lon)
def ptZ (lat : Int) : Nat := sinP lat
theorem tp_ptX (lon lat : Int) : Tp 201 (ptX lon lat) := (tp_mul (tp_cosP lat) (tp_cosP lon) (by omega) (by omega)).2
theorem tp_ptY (lon lat : Int) : Tp 201 (ptY lon lat) := (tp_mul (tp_cosP lat) (tp_sinP lon) (by omega) (by omega)).2
theorem ptX_of {lon lat : Int} {r : Nat} (h : can r = fbin BinOp.mul (can (cosP lat)) (can (cosP lon))) : r = ptX lon lat := by
  refine can_exact (E := ptX lon lat) ?_ (tp_ptX lon lat).fin
  rw [h]; exact fmul_can _ _
theorem ptY_of {lon lat : Int} {r : Nat} (h : can r = fbin BinOp.mul (can (cosP lat)) (can (sinP lon))) : r = ptY lon lat := by
  refine can_exact (E := ptY lon lat) ?_ (tp_ptY lon lat).fin
  rw [h]; exact fmul_can _ _

def ptV (lon lat : Int) : Value := .agg #[.float .f64 (ptX lon lat), .float .f64 (ptY lon lat), .float .f64 (ptZ lat)]

/-- of a call with one integer: what it hands back -/
def SpInt (f : Int → Value) (args : Array Value) (v : Value) : Prop := ∃ a : Int, args = #[.int .i64 a] ∧ v = f a
theorem spInt_iff (f : Int → Value) (a : Int) (v : Value) : SpInt f #[.int .i64 a] v ↔ v = f a := by
  unfold SpInt
  exact ⟨fun ⟨_, h, k⟩ => by simp at h; obtain rfl := h; exact k, fun h => ⟨_, rfl, h⟩⟩

set_option maxHeartbeats 4000000 in
theorem pathPoint_c (lon lat : Int) (w : World) : Calls Try.prog 6 #[.agg #[.int .i64 lon, .int .i64 lat]] w (ExR (ptV lon lat) w) := by
  go_enter Try.func6, Try.ntmps6
  go_wp2_with (first | (go_at_call 14; refine (cos_c _ _).mono ?_; rintro e w' ⟨rfl, hx⟩))
  obtain ⟨hb1, hb2, hw0⟩ := ext2 hx
  clear hx
  refine wp_region_head 14 (fun f args v => (f = 14 ∧ SpInt (fun a => .float .f64 (cosP a)) args v) ∨ (f = 15 ∧ SpInt (fun a => .float .f64 (sinP a)) args v)) (by kernel_rfl) (by kernel_rfl) ?_
  simp only [List.take_succ_cons, List.take_zero, List.drop_succ_cons, List.drop_zero]
  repeat (first
    | (refine wpR_op rfl (fun w1 hw K hK => ?_); have c1 := (hb1.ext hw.of_drew).cell; go_simp; refine hK _ ?_; clear hK K c1 hw w1)
    | (refine wpR_op rfl (fun w1 hw K hK => ?_); go_simp; refine rel_fl rfl ?_; intro r hr; refine hK _ ?_; clear hK K hw w1)
    | (refine wpR_op rfl (fun w1 hw K hK => ?_); go_simp; refine rel_call (ExR.call (cos_c _ _)) (fun v => ?_) (fun v hv => ?_); (simp [spInt_iff]); subst hv; refine hK _ ?_; clear hK K hw w1)
    | (refine wpR_op rfl (fun w1 hw K hK => ?_); go_simp; refine rel_call (ExR.call (sin_c _ _)) (fun v => ?_) (fun v hv => ?_); (simp [spInt_iff]); subst hv; refine hK _ ?_; clear hK K hw w1))
  refine wpR_nil ?_
  intro w1 hx1 _
  have hx1 := hx1.of_drew
  replace hb2 := hb2.ext hx1
  replace hw0 := hw0.trans hx1
  clear hx1 hb1
  have e1 := ptX_of ‹can _ = fbin BinOp.mul (can (cosP lat)) (can (cosP lon))›
  have e2 := ptY_of ‹can _ = fbin BinOp.mul (can (cosP lat)) (can (sinP lon))›
  subst e1
  subst e2
  refine wpList_own rfl 28 _ _ rfl _ _ rfl rfl _ _ hb2 (by kernel_rfl) rfl (by simp [Value.oneCell']) ?_
  intro w2 hb3 hk _
  replace hw0 := hk _ hw0 (by omega)
  clear hk hb2
  have c3 := hb3.cell
  go_wp2_with fail
  exact bodyPost_ret (v := ptV lon lat) (by simp [results, Try.results6, go_sem, c3, ptV, ptZ]) rfl ⟨rfl, hw0⟩
end Go.Proofs.Ytaipecabiepooaa
