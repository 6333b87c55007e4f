/- Walks: places on a ball, the reference's point; the angle between two places. -/
import Derived.Test.YtaipecabiepooaaT1
import Derived.Test.YtaipecabiepooaaRa
namespace Go.Proofs.Ytaipecabiepooaa
open Go.RowKit Go.Fp Go.Rel

set_option maxHeartbeats 4000000 in
theorem pointOf_c (lon lat : Int) (w : World) : Calls Try.prog 9 #[.agg #[.int .i64 lon, .int .i64 lat]] w (ExR (ptV lon lat) w) := by
  go_enter Try.func9, Try.ntmps9
  go_wp2_with (first | (go_at_call 20; refine (sincos_c _ _).mono ?_; rintro e w' ⟨rfl, rfl⟩) | (with_reducible refine upon_fl rfl ?_; intro r n hr))
  have e1 := ptX_of ‹can _ = fbin BinOp.mul (can (cosP lat)) (can (cosP lon))›
  have e2 := ptY_of ‹can _ = fbin BinOp.mul (can (cosP lat)) (can (sinP lon))›
  subst e1
  subst e2
  exact bodyPost_ret (v := ptV lon lat) (by simp [results, Try.results9, go_sem, ptV, ptZ]) rfl ⟨rfl, by repeat (first | exact Ext.refl _ | refine Ext.drewN ?_ _ | refine Ext.alloc ?_ _ | refine Ext.setCell ?_ (by simp) _)⟩

/-- of the vectors of two places: what stands upright on both, and how far they go together -/
def crX (px py pz qx qy qz : Nat) : Nat := lenP (fsub (fmul py qz) (fmul pz qy)) (fsub (fmul pz qx) (fmul px qz)) (fsub (fmul px qy) (fmul py qx))
def doX (px py pz qx qy qz : Nat) : Nat := fadd (fadd (fmul px qx) (fmul py qy)) (fmul pz qz)
def greatP (lon lat lon' lat' : Int) : Int :=
  (angleP (crX (ptX lon lat) (ptY lon lat) (ptZ lat) (ptX lon' lat') (ptY lon' lat') (ptZ lat')) (doX (ptX lon lat) (ptY lon lat) (ptZ lat) (ptX lon' lat') (ptY lon' lat') (ptZ lat'))).1

/-- of a call with one place: what it hands back -/
def SpPlace (f : Int → Int → Value) (args : Array Value) (v : Value) : Prop := ∃ a b : Int, args = #[.agg #[.int .i64 a, .int .i64 b]] ∧ v = f a b
theorem spPlace_iff (f : Int → Int → Value) (a b : Int) (v : Value) : SpPlace f #[.agg #[.int .i64 a, .int .i64 b]] v ↔ v = f a b := by
  unfold SpPlace
  exact ⟨fun ⟨_, _, h, k⟩ => by simp at h; obtain ⟨rfl, rfl⟩ := h; exact k, fun h => ⟨_, _, rfl, h⟩⟩
/-- of a call with one vector: the float that it hands back -/
def SpVec (f : Nat → Nat → Nat → Nat) (args : Array Value) (v : Value) : Prop := ∃ x y z : Nat, args = #[.agg #[.float .f64 x, .float .f64 y, .float .f64 z]] ∧ isFl (f (can x) (can y) (can z)) v
theorem spVec_iff (f : Nat → Nat → Nat → Nat) (x y z : Nat) (v : Value) : SpVec f #[.agg #[.float .f64 x, .float .f64 y, .float .f64 z]] v ↔ isFl (f (can x) (can y) (can z)) v := by
  unfold SpVec
  exact ⟨fun ⟨_, _, _, h, k⟩ => by simp at h; obtain ⟨rfl, rfl, rfl⟩ := h; exact k, fun h => ⟨_, _, _, rfl, h⟩⟩
/-- of a call with two floats: an int and a bool -/
def SpAn (args : Array Value) (v : Value) : Prop := ∃ y x : Nat, args = #[.float .f64 y, .float .f64 x] ∧ v = .tuple #[.int .i64 (angleP (can y) (can x)).1, .bool (angleP (can y) (can x)).2]
theorem spAn_iff (y x : Nat) (v : Value) : SpAn #[.float .f64 y, .float .f64 x] v ↔ v = .tuple #[.int .i64 (angleP (can y) (can x)).1, .bool (angleP (can y) (can x)).2] := by
  unfold SpAn
  exact ⟨fun ⟨_, _, h, k⟩ => by simp at h; obtain ⟨rfl, rfl⟩ := h; exact k, fun h => ⟨_, _, rfl, h⟩⟩
theorem AnR.call {P : Program} {f : FuncId} {args : Array Value} {p : Int × Bool} {W : World} (h : Calls P f args W (AnR p W)) : Calls P f args W (fun e w' => ∃ u, e = .returned u ∧ u = .tuple #[.int .i64 p.1, .bool p.2] ∧ Ext W w') :=
  h.mono fun _ _ ⟨he, hx⟩ => ⟨_, he, rfl, hx⟩

set_option maxHeartbeats 4000000 in
theorem great_c (lon lat lon' lat' : Int) (w : World) : Calls Try.prog 4 #[.agg #[.int .i64 lon, .int .i64 lat], .agg #[.int .i64 lon', .int .i64 lat']] w (ExR (.int .i64 (greatP lon lat lon' lat')) w) := by
  go_enter Try.func4, Try.ntmps4
  go_wp2_with fail
  refine wp_region_pair 6 4 5 5 6 (fun f args v => f = 6 ∧ SpPlace ptV args v) (by kernel_rfl) (by kernel_rfl) (by decide) (by decide) (by decide) (by kernel_rfl) ?_ ?_ (by simp) (by simp) ?_
  · intro o ho a w
    simp only [List.getElem?_toArray, List.getElem?_cons_succ, List.getElem?_cons_zero, Option.some.injEq] at ho
    subst ho
    exact ⟨.cells #[.float .f64 0, .float .f64 0, .float .f64 0] 28, by go_simp⟩
  · intro o ho a w
    simp only [List.getElem?_toArray, List.getElem?_cons_succ, List.getElem?_cons_zero, Option.some.injEq] at ho
    subst ho
    exact ⟨.cells #[.float .f64 0, .float .f64 0, .float .f64 0] 28, by go_simp⟩
  simp only [List.take_succ_cons, List.take_zero, List.drop_succ_cons, List.drop_zero]
  repeat (first
    | (refine wpR_op rfl (fun w1 hw K hK => ?_); have hc := hw.cell; go_simp; refine hK _ ?_; clear hK K hc hw w1)
    | (refine wpR_op rfl (fun w1 hw K hK => ?_); go_simp; refine rel_call (ExR.call (pathPoint_c _ _ _)) (fun v => ?_) (fun v hv => ?_); (simp [spPlace_iff]); subst hv; refine hK _ ?_; clear hK K hw w1))
  refine wpR_alloc (t := 28) (zs := #[.float .f64 0, .float .f64 0, .float .f64 0]) rfl (fun w1 => ?_) (fun n5 hn5 K hK => ?_)
  · go_simp
  go_simp
  refine hK _ ?_
  clear hK K
  refine wpR_alloc (t := 28) (zs := #[.float .f64 0, .float .f64 0, .float .f64 0]) rfl (fun w1 => ?_) (fun n6 hn6 K hK => ?_)
  · go_simp
  go_simp
  refine hK _ ?_
  clear hK K
  refine wpR_nil ?_
  intro w1 hx1 hΦ hne
  have hne' : n6 ≠ n5 := fun e => hne (by simp [e])
  obtain ⟨⟨_, hb5⟩, hb6⟩ := hΦ
  have hx := hx1.of_drew
  obtain ⟨_, _, hw0⟩ := ext2 hx
  simp at hn5 hn6
  clear hne hx1 hx
  refine wpList_own rfl 28 _ _ rfl n5 _ rfl rfl _ _ hb5 (by kernel_rfl) rfl (by simp [Value.oneCell']) ?_
  intro w2 hb5 hk ho
  replace hw0 := hk _ hw0 (by omega)
  replace hb6 := hb6.other ho hne'
  clear hk ho
  refine wpList_own rfl 28 _ _ rfl n6 _ rfl rfl _ _ hb6 (by kernel_rfl) rfl (by simp [Value.oneCell']) ?_
  intro w3 hb6 hk ho
  replace hw0 := hk _ hw0 (by omega)
  replace hb5 := hb5.other ho (Ne.symm hne')
  clear hk ho hne'
  have c5 := hb5.cell
  have c6 := hb6.cell
  go_wp2_with (first | (with_reducible refine upon_fl rfl ?_; intro r n hr))
  clear c5 c6
  have hl5 := hb5.lt
  have hl6 := hb6.lt
  refine wp_region_all (fun f args v => (f = 8 ∧ SpVec lenP args v) ∨ (f = 7 ∧ SpAn args v)) (by kernel_rfl) (by kernel_rfl) ?_
  repeat (first
    | (refine wpR_op rfl (fun w1 hw K hK => ?_); have c7 := (Blk.ext (Blk.drewN (Blk.new w3 _ _) _) hw.of_drew).cell; have hx3 := (((Ext.refl w3).alloc _).drewN _).trans hw.of_drew; have c5 := (hb5.ext hx3).cell; have c6 := (hb6.ext hx3).cell; go_simp; refine hK _ ?_; clear hK K c5 c6 c7 hx3 hw w1)
    | (refine wpR_op rfl (fun w1 hw K hK => ?_); go_simp; refine rel_fl rfl ?_; intro r hr; refine hK _ ?_; clear hK K hw w1)
    | (refine wpR_op rfl (fun w1 hw K hK => ?_); go_simp; refine rel_call (FlR.call (length_c _ _ _ _)) (fun v => ?_) (fun v hv => ?_); (simp [spVec_iff]); obtain ⟨r, rfl, hr⟩ := hv; refine hK _ ?_; clear hK K hw w1)
    | (refine wpR_op rfl (fun w1 hw K hK => ?_); go_simp; refine rel_call (AnR.call (angle_c _ _ _)) (fun v => ?_) (fun v hv => ?_); (simp [spAn_iff]); subst hv; refine hK _ ?_; clear hK K hw w1))
  refine wpR_nil ?_
  intro w4 hx4 _
  obtain ⟨_, hx5⟩ := ext1 (show Ext (w3.alloc _) w4 from hx4.of_drew.of_drewN)
  replace hw0 := hw0.trans hx5
  clear hx4 hx5
  go_wp2_with fail
  go_ret
  refine ⟨ret_int ?_, hw0⟩
  unfold greatP crX doX
  simp only [*, fbin, fmul_can]
end Go.Proofs.Ytaipecabiepooaa
