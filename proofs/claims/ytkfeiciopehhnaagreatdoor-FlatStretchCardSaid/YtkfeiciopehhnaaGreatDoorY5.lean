/- Walks: where a place is on paper: the reference's. -/
import Derived.Test.YtkfeiciopehhnaaGreatDoorY4
namespace Go.Proofs.YtkfeiciopehhnaaGreatDoor
open Go.RowKit Go.Fp Go.Rel
set_option maxRecDepth 20000

set_option maxHeartbeats 8000000 in
theorem flatOf_c {s : ByteArray} {n : Nat} (h : KindIs s n) (a f : Nat) (mid : Int) (sc : Nat) (lon lat : Int) (w : World) (h3 : n ≠ 3) :
    Calls Tryz.prog 20 #[paperV a f s mid sc, placeW lon lat] w (FlatQ (flatX n a f sc mid lon lat) (flatY n a f sc mid lon lat) w) := by
  obtain ⟨X, hX⟩ : ∃ X, X = flatX n a f sc mid lon lat := ⟨_, rfl⟩
  obtain ⟨Y, hY⟩ : ∃ Y, Y = flatY n a f sc mid lon lat := ⟨_, rfl⟩
  rw [← hX, ← hY]
  have HX := Lib.hid hX
  have HY := Lib.hid hY
  clear hX hY
  have N1 := normP_lo lon
  have N2 := normP_hi lon
  have N3 := normP_lo mid
  have N4 := normP_hi mid
  cases h
  case not => exact absurd rfl h3
  all_goals
    clear h3
    go_enter Tryz.func20, Tryz.ntmps20
    go_wp2_with fail
    rename_i KK hKK
    obtain ⟨hb1, hb2, hb3, hw⟩ := ext3 (Ext.refl (((w.alloc (.cells #[.float .f64 a, .float .f64 f, .string _, .int .i64 mid, .float .f64 sc] 45)).alloc (.cells #[.int .i64 lon, .int .i64 lat] 31)).alloc (.cells #[.float .f64 0, .float .f64 0] 28)))
    refine wp_region_all FT (by kernel_rfl) (by kernel_rfl) ?_
    repeat (first
      | (refine wpR_op rfl (fun w9 hw9 K hK => ?_); have k1 := (hb1.ext (bareN hw9 rfl rfl rfl rfl)).cell; have k2 := (hb2.ext (bareN hw9 rfl rfl rfl rfl)).cell; go_simp; refine hK _ ?_; clear hK K k1 k2 hw9 w9)
      | (refine wpR_op rfl (fun w9 hw9 K hK => ?_); go_simp; refine rel_call (same_call (normOf_c _ _)) (fun v => ?_) (fun v hv => ?_); (simp [FT, FU, spNorm_iff]); subst hv; refine hK _ ?_; clear hK K hw9 w9))
    refine wpR_nil ?_
    intro w8 hx8 _
    replace hw := hw.trans (bareN hx8 rfl rfl rfl rfl)
    replace hb3 := hb3.ext (bareN hx8 rfl rfl rfl rfl)
    replace hb2 := hb2.ext (bareN hx8 rfl rfl rfl rfl)
    replace hb1 := hb1.ext (bareN hx8 rfl rfl rfl rfl)
    clear hx8
    have c1 := hb1.cell
    have c2 := hb2.cell
    have W1 := offN_wrap mid lon
    go_wp2_with (first
      | (refine wpList_own rfl 28 _ _ rfl _ _ rfl rfl _ _ hb3 (by kernel_rfl) rfl (by simp [Value.oneCell']) ?_; go_must (intro u bn en sn; replace hw := en w (by repeat (first | exact hw | refine Ext.drewN ?_ _)) (by omega); have kc := bn.cell; clear sn en hb3))
      | (go_at_call 69; go_must (refine (downOf_c a f _ mid sc lat _).mono ?_; rintro e w2 ⟨d1, rfl, hd1, hx⟩; replace hw := hw.trans (bareN hx rfl rfl rfl rfl); replace hb3 := hb3.ext (bareN hx rfl rfl rfl rfl); replace hb2 := hb2.ext (bareN hx rfl rfl rfl rfl); replace hb1 := hb1.ext (bareN hx rfl rfl rfl rfl); clear c1 c2 hx; have c1 := hb1.cell; have c2 := hb2.cell))
      | (go_at_call 70; go_must (refine (upOf_c a f _ mid sc lat _).mono ?_; rintro e w2 ⟨u1, rfl, hu1, hx⟩; replace hw := hw.trans (bareN hx rfl rfl rfl rfl); replace hb3 := hb3.ext (bareN hx rfl rfl rfl rfl); replace hb2 := hb2.ext (bareN hx rfl rfl rfl rfl); replace hb1 := hb1.ext (bareN hx rfl rfl rfl rfl); clear c1 c2 hx; have c1 := hb1.cell; have c2 := hb2.cell))
      | (go_at_call 36; go_must (refine (isoOf_c a f lat _).mono ?_; rintro e w2 ⟨i1, rfl, hi1, hx⟩; replace hw := hw.trans (bareN hx rfl rfl rfl rfl); replace hb3 := hb3.ext (bareN hx rfl rfl rfl rfl); replace hb2 := hb2.ext (bareN hx rfl rfl rfl rfl); replace hb1 := hb1.ext (bareN hx rfl rfl rfl rfl); clear c1 c2 hx; have c1 := hb1.cell; have c2 := hb2.cell))
      | (go_at_call 59; go_must (refine (signedAngle_c _ _).mono ?_; rintro e w2 ⟨rfl, hx⟩; replace hw := hw.trans (bareN hx rfl rfl rfl rfl); replace hb3 := hb3.ext (bareN hx rfl rfl rfl rfl); replace hb2 := hb2.ext (bareN hx rfl rfl rfl rfl); replace hb1 := hb1.ext (bareN hx rfl rfl rfl rfl); clear c1 c2 hx; have c1 := hb1.cell; have c2 := hb2.cell))
      | (go_at_call 57; go_must (refine (sincos_c _ _).mono ?_; rintro e w2 ⟨rfl, rfl⟩))
      | (with_reducible refine upon_fl rfl ?_; intro r n hr))
  all_goals
    refine bodyPost_ret (v := flatV _ _) (by simp [results, Tryz.results20, go_sem, kc]; exact ⟨rfl, rfl⟩) rfl ⟨_, _, rfl, ?_, ?_, hw⟩
    · rw [HX.out]; simp [flatX, *, fbin, neg_can]
    · rw [HY.out]; simp [flatY, *, fbin, neg_can]
end Go.Proofs.YtkfeiciopehhnaaGreatDoor
