/- Walks: of which place a point of paper is: package flat's, on the two other kinds of paper. -/
import Derived.Test.YtopedblojfnlnaaGreatDoorZ6
namespace Go.Proofs.YtopedblojfnlnaaGreatDoor
open Go.RowKit Go.Fp Go.Rel
set_option maxRecDepth 20000

theorem order_canW (x : Nat) {c : Nat} (hc : isNan c = false) : D.order (can x) c = D.order x c := by
  have := order_can x c
  rwa [can_of_not hc] at this
theorem far_no {x Q : Nat} (h : can x = Q) (hf : farQ Q = false) : (FloatKind.f64.format.order x c32 == some .gt) = false ∧ (FloatKind.f64.format.order x m32 == some .lt) = false := by
  unfold farQ at hf
  rw [← h, order_canW x (by kernel_rfl), order_canW x (by kernel_rfl), Bool.or_eq_false_iff] at hf
  exact hf
theorem far_yes {x Q : Nat} (h : can x = Q) (hf : farQ Q = true) : (FloatKind.f64.format.order x c32 == some .gt) = true ∨ ((FloatKind.f64.format.order x c32 == some .gt) = false ∧ (FloatKind.f64.format.order x m32 == some .lt) = true) := by
  unfold farQ at hf
  rw [← h, order_canW x (by kernel_rfl), order_canW x (by kernel_rfl), Bool.or_eq_true] at hf
  cases hg : (D.order x c32 == some .gt) with
  | true => exact .inl hg
  | false => rcases hf with hf | hf
             · rw [hg] at hf; cases hf
             · exact .inr ⟨hg, hf⟩
set_option maxHeartbeats 8000000 in
theorem from_mer {A : Nat → Addr} (a f : Nat) (mid : Int) (sc x y : Nat) (r : Int) (w : World) (h8 : World8 A w) (hk : papP (okG a f) 0 sc = 0) (hx : btw x m1e8 c1e8 = true) (hy : btw y m1e8 c1e8 = true) (hf : farQ (eastQ a sc (can x)) = false) (hI : LatOk (isoP f) (fromY 0 a f sc x y) r) :
    Calls Tryz.prog 22 #[paperV a f sMer mid sc, flatV x y] w (FromR A 0 (fromLon 0 a sc x y mid) r w) := by
  have HC := Lib.hid (valid_ok (A := A) KindIs.mer a f mid sc hk)
  obtain ⟨Y, hY⟩ : ∃ Y, Y = fromY 0 a f sc x y := ⟨_, rfl⟩
  rw [← hY] at hI
  have HL : Hid (∀ x', can x' = Y → ∀ w, Calls Tryz.prog 28 #[globeV a f, .float .f64 x'] w (ExR (.int .i64 r) w)) := Lib.hid (fun x' h w => lat_c a f x' r w (by rw [h]; exact hI))
  have HY := Lib.hid hY
  have HF := Lib.hid hf
  clear hk hY hI hf
  obtain ⟨o1, o2⟩ := btw_yes hx
  obtain ⟨o3, o4⟩ := btw_yes hy
  clear hx hy
  go_enter Tryz.func22, Tryz.ntmps22
  go_wp2_with (first
    | (go_at_call 61; go_must (refine (HC.out _ (h8.ext (by repeat (first | exact Ext.refl _ | refine Ext.alloc ?_ _)))).mono ?_; rintro e w1 ⟨rfl, hx⟩; obtain ⟨hb1, hb2, hb3, hw⟩ := ext3 hx; have c1 := hb1.cell; have c2 := hb2.cell; clear hx))
    | (go_at_call 40; go_must (refine (norm_c _ _).mono ?_; rintro e w2 ⟨rfl, rfl⟩)))
  clear c1 c2 o1 o2 o3 o4
  refine wp_region_all FT (by kernel_rfl) (by kernel_rfl) ?_
  repeat (first
    | (refine wpR_op rfl (fun w9 hw9 K hK => ?_); have k1 := (hb1.ext (bareN hw9 rfl rfl rfl rfl)).cell; have k2 := (hb2.ext (bareN hw9 rfl rfl rfl rfl)).cell; go_simp; refine hK _ ?_; clear hK K k1 k2 hw9 w9)
    | (refine wpR_op rfl (fun w9 hw9 K hK => ?_); go_simp; refine rel_call (FlR.call (paperA_c a f _ mid sc _)) (fun v => ?_) (fun v hv => ?_); (simp [FT, FU, spPap_iff]); obtain ⟨ra, rfl, hra⟩ := hv; refine hK _ ?_; clear hK K hw9 w9)
    | (refine wpR_op rfl (fun w9 hw9 K hK => ?_); go_simp; refine rel_fl rfl ?_; intro rx hrx; refine hK _ ?_; clear hK K hw9 w9))
  refine wpR_nil ?_
  intro w8 hx8 _
  replace hw := hw.trans (bareN hx8 rfl rfl rfl rfl)
  replace hb3 := hb3.ext (bareN hx8 rfl rfl rfl rfl)
  replace hb2 := hb2.ext (bareN hx8 rfl rfl rfl rfl)
  replace hb1 := hb1.ext (bareN hx8 rfl rfl rfl rfl)
  clear hx8
  have hq : can rx = eastQ a sc (can x) := by rw [hrx, hra]; rfl
  have c1 := hb1.cell
  have c2 := hb2.cell
  obtain ⟨o5, o6⟩ := far_no hq HF.out
  obtain ⟨N, hN⟩ : ∃ N, N = nearP (can rx) := ⟨_, rfl⟩
  have W0 := hN.symm
  have HLon : Hid (fromLon 0 a sc x y mid = signP (IntKind.i64.wrap (normP mid + N))) := by
    show fromLon 0 a sc x y mid = _
    rw [hN, hq]; rfl
  obtain ⟨M, hM⟩ : ∃ M, M = IntKind.i64.wrap (normP mid + N) := ⟨_, rfl⟩
  have W1 := hM.symm
  rw [← hM] at HLon
  clear hrx hq hN hM hra
  go_wp2_with (first
    | (go_at_call 31; go_must (refine (nearest_c _ _).mono ?_; rintro e w2 ⟨rfl, hx⟩; replace hw := hw.trans (bareN hx rfl rfl rfl rfl); replace hb3 := hb3.ext (bareN hx rfl rfl rfl rfl); replace hb2 := hb2.ext (bareN hx rfl rfl rfl rfl); replace hb1 := hb1.ext (bareN hx rfl rfl rfl rfl); clear c1 c2 hx; have c1 := hb1.cell; have c2 := hb2.cell))
    | (go_at_call 39; go_must (refine (signed_c _ _).mono ?_; rintro e w2 ⟨rfl, hx⟩; replace hw := hw.trans (bareN hx rfl rfl rfl rfl); replace hb3 := hb3.ext (bareN hx rfl rfl rfl rfl); replace hb2 := hb2.ext (bareN hx rfl rfl rfl rfl); replace hb1 := hb1.ext (bareN hx rfl rfl rfl rfl); clear c1 c2 hx; have c1 := hb1.cell; have c2 := hb2.cell; have k1 : ∀ o i, (w2.alloc o).cell? ⟨w.heap.size, i, none⟩ = #[Value.float .f64 a, Value.float .f64 f, Value.string _, Value.int .i64 mid, Value.float .f64 sc][i]? := (fun o i => (hb1.ext ((Ext.refl w2).alloc o)).cell i); have k2 : ∀ o i, (w2.alloc o).cell? ⟨w.heap.size + 1, i, none⟩ = #[Value.float .f64 x, Value.float .f64 y][i]? := (fun o i => (hb2.ext ((Ext.refl w2).alloc o)).cell i)))
    | (go_at_call 64; go_must (refine (paperA_c a f _ mid sc _).mono ?_; rintro e w2 ⟨a1, rfl, ha1, hx⟩; replace hw := hw.trans (bareN hx rfl rfl rfl rfl); replace hb3 := hb3.ext (bareN hx rfl rfl rfl rfl); replace hb2 := hb2.ext (bareN hx rfl rfl rfl rfl); replace hb1 := hb1.ext (bareN hx rfl rfl rfl rfl); clear c1 c2 hx; have c1 := hb1.cell; have c2 := hb2.cell))
    | (with_reducible refine upon_fl rfl ?_; intro r0 n hr))
  have hbf : Blk (w2.alloc (.cells #[.int .i64 (signP M), .int .i64 0] 31)) w2.heap.size 31 #[.int .i64 (signP M), .int .i64 0] := Blk.new _ _ _
  have hwf : Ext w (w2.alloc (.cells #[.int .i64 (signP M), .int .i64 0] 31)) := hw.alloc _
  have hsz := hw.size
  have hl3 := hb3.lt
  replace hb1 := hb1.ext ((Ext.refl w2).alloc (.cells #[.int .i64 (signP M), .int .i64 0] 31))
  replace hb2 := hb2.ext ((Ext.refl w2).alloc (.cells #[.int .i64 (signP M), .int .i64 0] 31))
  replace hb3 := hb3.ext ((Ext.refl w2).alloc (.cells #[.int .i64 (signP M), .int .i64 0] 31))
  clear c1 c2 k1 k2 o5 o6 W0 W1
  refine wp_region_head 9 (FTL r) (by kernel_rfl) (by kernel_rfl) ?_
  simp only [List.take_succ_cons, List.take_zero, List.drop_succ_cons, List.drop_zero]
  repeat (first
    | (refine wpR_op rfl (fun w9 hw9 K hK => ?_); have k1 := (hb1.ext (bareN hw9 rfl rfl rfl rfl)).cell; have k2 := (hb2.ext (bareN hw9 rfl rfl rfl rfl)).cell; go_simp; refine hK _ ?_; clear hK K k1 k2 hw9 w9)
    | (refine wpR_op rfl (fun w9 hw9 K hK => ?_); go_simp; refine rel_call (FlR.call (paperA_c a f _ mid sc _)) (fun v => ?_) (fun v hv => ?_); (simp [FTL, FT, FU, spPap_iff]); obtain ⟨ra, rfl, hra⟩ := hv; refine hK _ ?_; clear hK K hw9 w9)
    | (refine wpR_op rfl (fun w9 hw9 K hK => ?_); go_simp; refine rel_fl rfl ?_; intro rx hrx; refine hK _ ?_; clear hK K hw9 w9)
    | (refine wpR_op rfl (fun w9 hw9 K hK => ?_); go_simp; refine rel_call (ExR.call (HL.out _ (by rw [HY.out]; simp [fromY, *, fbin, neg_can]) _)) (fun v => ?_) (fun v hv => ?_); (rw [ftl_r]); subst hv; refine hK _ ?_; clear hK K hw9 w9))
  refine wpR_nil ?_
  intro w8 hx8 _
  replace hw := hwf.trans (bareN hx8 rfl rfl rfl rfl)
  replace hbf := hbf.ext (bareN hx8 rfl rfl rfl rfl)
  replace hb3 := hb3.ext (bareN hx8 rfl rfl rfl rfl)
  clear hb1 hb2 hx8 hwf
  generalize w2.heap.size = nb at *
  have cf := hbf.cell
  have ff := hbf.frozen
  go_wp2_with (first
    | (refine wpList_own rfl 31 _ _ rfl _ _ rfl rfl _ _ (hb3.same (fun n hn => setCell_other' _ _ _ _ _ hn) (Nat.ne_of_lt hl3)) (by kernel_rfl) rfl (by simp [Value.oneCell']) ?_; go_must (intro u bn en sn; replace hw := en w (Ext.setCell hw (by omega) _) (by omega); have kc := bn.cell; clear sn en hb3)))
  refine bodyPost_ret (v := .tuple #[placeW (signP M) r, .nilIface]) (by simp [results, Tryz.results22, go_sem, kc]) rfl ⟨_, by rw [HLon.out], .nil, hw⟩
end Go.Proofs.YtopedblojfnlnaaGreatDoor
