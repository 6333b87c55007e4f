/- Walks: the reference's angle between two places. -/
import Derived.Test.YtaipecabiepooaaT2
namespace Go.Proofs.Ytaipecabiepooaa
open Go.RowKit Go.Fp Go.Rel

set_option maxHeartbeats 1000000 in
theorem refAngle_c (y x : Nat) (w : World) : Calls Try.prog 12 #[.float .f64 y, .float .f64 x] w (ExR (.int .i64 (angleP (can y) (can x)).1) w) := by
  have HA := Lib.hid (angleOf_c y x)
  generalize angleP (can y) (can x) = p at *
  go_enter Try.func12, Try.ntmps12
  go_wp2_with (first | (go_at_call 21; refine (HA.out _).mono ?_; rintro e w' ⟨rfl, hx⟩))
  go_ret
  exact ⟨rfl, hx⟩

set_option maxHeartbeats 4000000 in
theorem greatOf_c (lon lat lon' lat' : Int) (w : World) : Calls Try.prog 5 #[.agg #[.int .i64 lon, .int .i64 lat], .agg #[.int .i64 lon', .int .i64 lat']] w (ExR (.int .i64 (greatP lon lat lon' lat')) w) := by
  go_enter Try.func5, Try.ntmps5
  go_wp2_with fail
  refine (pointOf_c _ _ _).mono ?_
  rintro e w1 ⟨rfl, hx1⟩
  obtain ⟨_, hb3, hw0⟩ := ext2 hx1
  clear hx1
  have c3 := hb3.cell
  have hl3 := hb3.lt
  unfold ptV
  go_wp2_with fail
  refine (pointOf_c _ _ _).mono ?_
  rintro e w2 ⟨rfl, hx2⟩
  obtain ⟨hb5, hx⟩ := ext1 hx2
  replace hw0 := hw0.trans hx
  clear hx2 hx hb3 c3 hl3
  have c5 := hb5.cell
  have hl5 := hb5.lt
  unfold ptV
  go_wp2_with (first | (with_reducible refine upon_fl rfl ?_; intro r n hr))
  clear c5
  refine wp_region_head 20 (fun f args v => f = 10 ∧ SpTri (fun x y z => fsub x (fmul y z)) args v) (by kernel_rfl) (by kernel_rfl) ?_
  simp only [List.take_succ_cons, List.take_zero, List.drop_succ_cons, List.drop_zero]
  repeat (first
    | (refine wpR_op rfl (fun w1 hw K hK => ?_); have c6 := (Blk.ext (Blk.drewN (Blk.new w2 _ _) _) hw.of_drew).cell; have hx3 := (((Ext.refl w2).alloc _).drewN _).trans hw.of_drew; have c5 := (hb5.ext hx3).cell; go_simp; refine hK _ ?_; clear hK K c5 c6 hx3 hw w1)
    | (refine wpR_op rfl (fun w1 hw K hK => ?_); go_simp; refine rel_call (FlR.call (less_c _ _ _ _)) (fun v => ?_) (fun v hv => ?_); (simp [spTri_iff]); obtain ⟨r, rfl, hr⟩ := hv; refine hK _ ?_; clear hK K hw w1))
  refine wpR_alloc (t := 28) (zs := #[.float .f64 0, .float .f64 0, .float .f64 0]) rfl (fun w1 => ?_) (fun n7 hn7 K hK => ?_)
  · go_simp
  go_simp
  refine hK _ ?_
  clear hK K
  refine wpR_nil ?_
  intro w3 hx3 hΦ
  obtain ⟨_, hb7⟩ := hΦ
  have hx3' := hx3.of_drew
  have hb6 := Blk.ext (Blk.drewN (Blk.new w2 _ _) _) hx3'
  have hx := (((Ext.refl w2).alloc _).drewN _).trans hx3'
  replace hb5 := hb5.ext hx
  have hq := hw0.size
  replace hw0 := hw0.trans hx
  simp at hn7
  have hsz := hw0.size
  have hsz2 := hx.size
  clear hx hx3 hx3'
  have hne5 : w1.heap.size ≠ n7 := by omega
  have hne6 : w2.heap.size ≠ n7 := by omega
  refine wpList_own rfl 28 _ _ rfl n7 _ rfl rfl _ _ hb7 (by kernel_rfl) rfl (by simp [Value.oneCell']) ?_
  intro w4 hb7 hk ho
  replace hw0 := hk _ hw0 (by omega)
  replace hb5 := hb5.other ho hne5
  replace hb6 := hb6.other ho hne6
  clear hk ho hne5 hne6 hl5
  have c5 := hb5.cell
  have c6 := hb6.cell
  have c7 := hb7.cell
  go_wp2_with (first | (with_reducible refine upon_fl rfl ?_; intro r n hr))
  clear c5 c6 c7
  refine wp_region_all (fun f args v => f = 11 ∧ SpTri (fun x y z => fadd x (fmul y z)) args v) (by kernel_rfl) (by kernel_rfl) ?_
  repeat (first
    | (refine wpR_op rfl (fun w1 hw K hK => ?_); have hx3 := (hw.of_drew).of_drewN; have c5 := (hb5.ext hx3).cell; have c6 := (hb6.ext hx3).cell; go_simp; refine hK _ ?_; clear hK K c5 c6 hx3 hw w1)
    | (refine wpR_op rfl (fun w1 hw K hK => ?_); go_simp; refine rel_call (FlR.call (plus_c _ _ _ _)) (fun v => ?_) (fun v hv => ?_); (simp [spTri_iff]); obtain ⟨r, rfl, hr⟩ := hv; refine hK _ ?_; clear hK K hw w1))
  refine wpR_nil ?_
  intro w5 hx5 _
  replace hx5 := hx5.of_drew.of_drewN
  replace hb7 := hb7.ext hx5
  replace hw0 := hw0.trans hx5
  clear hx5 hb5 hb6
  have c7 := hb7.cell
  go_wp2_with (first
    | (go_at_call 13; refine (lengthOf_c _ _ _ _).mono ?_; rintro e w6 ⟨r, rfl, hr, hx6⟩)
    | (go_at_call 12; refine (refAngle_c _ _ _).mono ?_; rintro e w7 ⟨rfl, hx7⟩))
  go_ret
  refine ⟨ret_int ?_, hw0.trans (hx6.trans hx7)⟩
  unfold greatP crX doX
  simp only [*, fbin, fmul_can]
end Go.Proofs.Ytaipecabiepooaa
