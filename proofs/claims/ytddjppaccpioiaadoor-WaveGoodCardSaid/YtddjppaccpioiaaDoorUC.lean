/- Walks: a strip turned into the program's; the same point, bit by bit. -/
import Derived.Test.YtddjppaccpioiaaDoorU6
import Derived.Test.YtddjppaccpioiaaDoorZD
namespace Go.Proofs.YtddjppaccpioiaaDoor
open Go.RowKit Go.Fp Go.Rel
set_option maxRecDepth 20000

theorem ballS_c (a f : Nat) (w : World) : Calls Tryd.prog 10 #[globeV a f] w (ExR (globeV a f) w) := ball_c a f w
set_option maxHeartbeats 4000000 in
theorem strip_c (a f : Nat) (mid : Int) (sc : Nat) (w : World) : Calls Tryd.prog 19 #[stripV a f mid sc] w (ExR (stripV a f mid sc) w) := by
  go_enter Tryd.func19, Tryd.ntmps19
  go_wp2_with fail
  rename_i KK hKK
  obtain ⟨hb1, hb2, hw⟩ := ext2 (Ext.refl ((w.alloc (.cells #[.float .f64 a, .float .f64 f, .int .i64 mid, .float .f64 sc] 46)).alloc (.cells #[.float .f64 0, .float .f64 0, .int .i64 0, .float .f64 0] 56)))
  refine wp_region_head 8 (fun g args v => g = 10 ∧ args = #[globeV a f] ∧ v = globeV a f) (by kernel_rfl) (by kernel_rfl) ?_
  simp only [List.take_succ_cons, List.take_zero, List.drop_succ_cons, List.drop_zero]
  repeat (first
    | (refine wpR_op rfl (fun w9 hw9 K hK => ?_); have k1 := (hb1.ext (bareN hw9 rfl rfl rfl rfl)).cell; go_simp; refine hK _ ?_; clear hK K k1 hw9 w9)
    | (refine wpR_op rfl (fun w9 hw9 K hK => ?_); go_simp; refine rel_call (ExR.call (ballS_c a f _)) (fun v => ?_) (fun v hv => ?_); (simp); subst hv; refine hK _ ?_; clear hK K hw9 w9))
  refine wpR_nil ?_
  intro w8 hx8 _
  replace hw := hw.trans (bareN hx8 rfl rfl rfl rfl)
  replace hb2 := hb2.ext (bareN hx8 rfl rfl rfl rfl)
  clear hx8 hb1
  refine wpList_own rfl 56 _ _ rfl _ _ rfl rfl _ _ hb2 (by kernel_rfl) rfl (by simp [Value.oneCell']) ?_
  intro u bn en sn
  replace hw := en w hw (by omega)
  have kc := bn.cell
  clear sn en hb2
  go_wp2_with fail
  exact bodyPost_ret (v := stripV a f mid sc) (by simp [results, Tryd.results19, go_sem, kc]) rfl ⟨rfl, hw⟩

end Go.Proofs.YtddjppaccpioiaaDoor
