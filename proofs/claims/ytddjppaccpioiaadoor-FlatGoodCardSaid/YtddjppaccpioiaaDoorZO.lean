/- Walks: papers, with no error in sight. Printed by gen_flatgood.py. -/
import Derived.Test.YtddjppaccpioiaaDoorZN
namespace Go.Proofs.YtddjppaccpioiaaDoor
open Go.RowKit Go.Fp Go.Rel
set_option maxRecDepth 20000

/-- of a world nothing is asked -/
structure W0 (A : Nat → Addr) (w : World) : Prop where
theorem W0.ext {A : Nat → Addr} {w w' : World} (_ : W0 A w) (_ : Ext w w') : W0 A w' := {}
theorem btw_trueZ {x lo hi : Nat} (h : btw x lo hi = true) : (FloatKind.f64.format.order x lo == some .gt || FloatKind.f64.format.order x lo == some .eq) = true ∧ (FloatKind.f64.format.order x hi == some .lt || FloatKind.f64.format.order x hi == some .eq) = true := by
  have e : FloatKind.f64.format = D := rfl
  rw [e]
  unfold btw fge fle at h
  rwa [Bool.and_eq_true] at h
set_option maxHeartbeats 4000000 in
theorem gvalid0_c (a f : Nat) (h : okG a f = true) (w : World) : Calls Tryd.prog 38 #[globeV a f] w (ExR .nilIface w) := by
  unfold okG at h
  rw [Bool.and_eq_true] at h
  obtain ⟨h1, h2⟩ := h
  obtain ⟨o1, o2⟩ := btw_trueZ h1
  obtain ⟨o3, o4⟩ := btw_trueZ h2
  clear h1 h2
  go_enter Tryd.func38, Tryd.ntmps38
  go_wp2_with fail
  all_goals go_ret
  all_goals exact ⟨rfl, (Ext.refl w).alloc _⟩
theorem papP_ok {g : Bool} {n sc : Nat} (h : papP g n sc = 0) : g = true ∧ n ≠ 3 ∧ btw sc 4591870180066957722 4621819117588971520 = true := by
  unfold papP at h
  cases g
  · simp at h
  · rw [if_pos rfl] at h
    by_cases h3 : n = 3
    · rw [if_pos h3] at h; simp at h
    · rw [if_neg h3] at h
      refine ⟨rfl, h3, ?_⟩
      cases hb : btw sc 4591870180066957722 4621819117588971520
      · rw [hb] at h; simp at h
      · rfl
set_option maxHeartbeats 4000000 in
theorem pvalid0_c {s : ByteArray} {n : Nat} (h : KindIs s n) (a f : Nat) (mid : Int) (sc : Nat) (hk : papP (okG a f) n sc = 0) (w : World) :
    Calls Tryd.prog 73 #[paperV a f s mid sc] w (ExR .nilIface w) := by
  obtain ⟨hg, h3, hb⟩ := papP_ok hk
  have HV := Lib.hid (gvalid0_c a f hg)
  clear hk hg
  cases h
  case not => exact absurd rfl h3
  all_goals
    obtain ⟨o1, o2⟩ := btw_trueZ hb
    clear h3 hb
    go_enter Tryd.func73, Tryd.ntmps73
    go_wp2_with (first
      | (go_at_call 38; go_must (refine (HV.out _).mono ?_; rintro e w1 ⟨rfl, hx⟩; obtain ⟨hb1, hw⟩ := ext1 hx; have c1 := hb1.cell; clear hx)))
    all_goals go_ret
    all_goals exact ⟨rfl, hw⟩
theorem chkP_ok {k : Int} {n : Nat} {lat : Int} (hp : k = 0 ∨ 0 < k) (h : chkP k n lat = 0) : k = 0 ∧ lat ≤ 89000000000 ∧ -89000000000 ≤ lat ∧ (n = 2 → 0 ≤ lat) := by
  unfold chkP at h
  split at h
  · omega
  · split at h
    · cases h
    · split at h
      · cases h
      · rename_i h1 h2 h3
        exact ⟨by omega, by omega, by omega, fun hn => by have := fun hl => h3 ⟨hn, hl⟩; omega⟩
set_option maxHeartbeats 8000000 in
theorem pcheck0_c {s : ByteArray} {n : Nat} (h : KindIs s n) (a f : Nat) (mid : Int) (sc : Nat) (lon lat : Int) (w : World) (hk : chkP (papP (okG a f) n sc) n lat = 0) :
    Calls Tryd.prog 68 #[paperV a f s mid sc, placeW lon lat] w (ExR .nilIface w) := by
  obtain ⟨hp, l1, l2, l3⟩ := chkP_ok (by rcases papP_cases (okG a f) n sc with h | h | h <;> omega) hk
  have h3 := (papP_ok hp).2.1
  have HV := Lib.hid (pvalid0_c h a f mid sc hp)
  clear hk hp
  have q1 : ¬ 89000000000 < lat := by omega
  have q2 : ¬ lat < -89000000000 := by omega
  cases h
  case not => exact absurd rfl h3
  case pol =>
    have q3 : ¬ lat < 0 := by have := l3 rfl; omega
    clear h3 l3 l1 l2
    go_enter Tryd.func68, Tryd.ntmps68
    go_wp2_with (first
      | (go_at_call 73; go_must (refine (HV.out _).mono ?_; rintro e w1 ⟨rfl, hx⟩; obtain ⟨hb1, hb2, hw⟩ := ext2 hx; have c1 := hb1.cell; have c2 := hb2.cell; clear hx)))
    go_ret
    exact ⟨rfl, hw⟩
  all_goals
    clear h3 l3 l1 l2
    go_enter Tryd.func68, Tryd.ntmps68
    go_wp2_with (first
      | (go_at_call 73; go_must (refine (HV.out _).mono ?_; rintro e w1 ⟨rfl, hx⟩; obtain ⟨hb1, hb2, hw⟩ := ext2 hx; have c1 := hb1.cell; have c2 := hb2.cell; clear hx)))
    go_ret
    exact ⟨rfl, hw⟩
set_option maxHeartbeats 8000000 in
theorem to_ok0 {A : Nat → Addr} {s : ByteArray} {n : Nat} (h : KindIs s n) (a f : Nat) (mid : Int) (sc : Nat) (lon lat : Int) (w : World) (h8 : W0 A w) (hk : chkP (papP (okG a f) n sc) n lat = 0) (h3 : n ≠ 3) :
    Calls Tryd.prog 31 #[paperV a f s mid sc, placeW lon lat] w (FlatR A 0 (flatX n a f sc mid lon lat) (flatY n a f sc mid lon lat) w) := by
  have HC0 : ∀ w, W0 A w → Calls Tryd.prog 68 #[paperV a f s mid sc, placeW lon lat] w (ExR .nilIface w) := by
    intro w h8
    exact pcheck0_c h a f mid sc lon lat w hk
  have HC := Lib.hid HC0
  clear HC0 hk
  have W1 := offN_wrap mid lon
  obtain ⟨X, hX⟩ : ∃ X, X = flatX n a f sc mid lon lat := ⟨_, rfl⟩
  obtain ⟨Y, hY⟩ : ∃ Y, Y = flatY n a f sc mid lon lat := ⟨_, rfl⟩
  rw [← hX, ← hY]
  have HX := Lib.hid hX
  have HY := Lib.hid hY
  clear hX hY
  have N1 := normP_lo lon
  have N2 := normP_hi lon
  have N3 := normP_lo mid
  have N4 := normP_hi mid
  cases h
  case not => exact absurd rfl h3
  all_goals
    clear h3
    go_enter Tryd.func31, Tryd.ntmps31
    go_wp2_with (first
      | (go_at_call 68; go_must (refine (HC.out _ (h8.ext (by repeat (first | exact Ext.refl _ | refine Ext.alloc ?_ _)))).mono ?_; rintro e w1 ⟨rfl, hx⟩; obtain ⟨hb1, hb2, hb3, hw⟩ := ext3 hx; have c1 := hb1.cell; have c2 := hb2.cell; clear hx)))
    clear c1 c2
    refine wp_region_all FT (by kernel_rfl) (by kernel_rfl) ?_
    repeat (first
      | (refine wpR_op rfl (fun w9 hw9 K hK => ?_); have k1 := (hb1.ext (bareN hw9 rfl rfl rfl rfl)).cell; have k2 := (hb2.ext (bareN hw9 rfl rfl rfl rfl)).cell; go_simp; refine hK _ ?_; clear hK K k1 k2 hw9 w9)
      | (refine wpR_op rfl (fun w9 hw9 K hK => ?_); go_simp; refine rel_call (same_call (norm_c _ _)) (fun v => ?_) (fun v hv => ?_); (simp [FT, FU, spNorm_iff]); subst hv; refine hK _ ?_; clear hK K hw9 w9))
    refine wpR_nil ?_
    intro w8 hx8 _
    replace hw := hw.trans (bareN hx8 rfl rfl rfl rfl)
    replace hb3 := hb3.ext (bareN hx8 rfl rfl rfl rfl)
    replace hb2 := hb2.ext (bareN hx8 rfl rfl rfl rfl)
    replace hb1 := hb1.ext (bareN hx8 rfl rfl rfl rfl)
    clear hx8
    have c1 := hb1.cell
    have c2 := hb2.cell
    have W1 := offN_wrap mid lon
    go_wp2_with (first
      | (refine wpList_own rfl 53 _ _ rfl _ _ rfl rfl _ _ hb3 (by kernel_rfl) rfl (by simp [Value.oneCell']) ?_; go_must (intro u bn en sn; replace hw := en w (by repeat (first | exact hw | refine Ext.drewN ?_ _)) (by omega); have kc := bn.cell; clear sn en hb3))
      | (go_at_call 69; go_must (refine (down_c a f _ mid sc lat _).mono ?_; rintro e w2 ⟨d1, rfl, hd1, hx⟩; replace hw := hw.trans (bareN hx rfl rfl rfl rfl); replace hb3 := hb3.ext (bareN hx rfl rfl rfl rfl); replace hb2 := hb2.ext (bareN hx rfl rfl rfl rfl); replace hb1 := hb1.ext (bareN hx rfl rfl rfl rfl); clear c1 c2 hx; have c1 := hb1.cell; have c2 := hb2.cell))
      | (refine wpList_own rfl 53 _ _ rfl _ _ rfl rfl _ _ (hb3.same (fun n hn => setCell_other' _ _ _ _ _ hn) (Nat.ne_of_lt hl3)) (by kernel_rfl) rfl (by simp [Value.oneCell']) ?_; go_must (intro u bn en sn; replace hw := en w (Ext.setCell hw (by omega) _) (by omega); have kc := bn.cell; clear sn en hb3))
      | (go_at_call 70; go_must (refine (paperA_c a f _ mid sc _).mono ?_; rintro e w2 ⟨a1, rfl, ha1, hx⟩; replace hw := hw.trans (bareN hx rfl rfl rfl rfl); replace hb3 := hb3.ext (bareN hx rfl rfl rfl rfl); replace hb2 := hb2.ext (bareN hx rfl rfl rfl rfl); replace hb1 := hb1.ext (bareN hx rfl rfl rfl rfl); clear c1 c2 hx; (try clear k1 k2); have c1 := hb1.cell; have c2 := hb2.cell; have k1 : ∀ o i, (w2.alloc o).cell? ⟨w.heap.size, i, none⟩ = #[Value.float .f64 a, Value.float .f64 f, Value.string _, Value.int .i64 mid, Value.float .f64 sc][i]? := (fun o i => (hb1.ext ((Ext.refl w2).alloc o)).cell i); have k2 : ∀ o i, (w2.alloc o).cell? ⟨w.heap.size + 1, i, none⟩ = #[Value.int .i64 lon, Value.int .i64 lat][i]? := (fun o i => (hb2.ext ((Ext.refl w2).alloc o)).cell i)))
      | (go_at_call 72; go_must (refine (up_c a f _ mid sc lat _).mono ?_; rintro e w3 ⟨u1, rfl, hu1, hx⟩; obtain ⟨hbf, hx'⟩ := ext1 (show Ext (w2.alloc _) w3 from bareN hx rfl rfl rfl rfl); have hsz := hw.size; have hl3 := hb3.lt; replace hw := hw.trans hx'; replace hb3 := hb3.ext hx'; clear c1 c2 k1 k2 hx hx' hb1 hb2; generalize w2.heap.size = nb at *; have cf := hbf.cell; have ff := hbf.frozen))
      | (go_at_call 71; go_must (refine (iso_c a f lat _).mono ?_; rintro e w2 ⟨i1, rfl, hi1, hx⟩; replace hw := hw.trans (bareN hx rfl rfl rfl rfl); replace hb3 := hb3.ext (bareN hx rfl rfl rfl rfl); replace hb2 := hb2.ext (bareN hx rfl rfl rfl rfl); replace hb1 := hb1.ext (bareN hx rfl rfl rfl rfl); clear c1 c2 hx; (try clear k1 k2); have c1 := hb1.cell; have c2 := hb2.cell; have k1 : ∀ o i, (w2.alloc o).cell? ⟨w.heap.size, i, none⟩ = #[Value.float .f64 a, Value.float .f64 f, Value.string _, Value.int .i64 mid, Value.float .f64 sc][i]? := (fun o i => (hb1.ext ((Ext.refl w2).alloc o)).cell i); have k2 : ∀ o i, (w2.alloc o).cell? ⟨w.heap.size + 1, i, none⟩ = #[Value.int .i64 lon, Value.int .i64 lat][i]? := (fun o i => (hb2.ext ((Ext.refl w2).alloc o)).cell i)))
      | (go_at_call 44; go_must (refine (sin_c _ _).mono ?_; rintro e w2 ⟨rfl, hx⟩; replace hw := hw.trans (bareN hx rfl rfl rfl rfl); replace hb3 := hb3.ext (bareN hx rfl rfl rfl rfl); replace hb2 := hb2.ext (bareN hx rfl rfl rfl rfl); replace hb1 := hb1.ext (bareN hx rfl rfl rfl rfl); clear c1 c2 hx; (try clear k1 k2); have c1 := hb1.cell; have c2 := hb2.cell; have k1 : ∀ o i, (w2.alloc o).cell? ⟨w.heap.size, i, none⟩ = #[Value.float .f64 a, Value.float .f64 f, Value.string _, Value.int .i64 mid, Value.float .f64 sc][i]? := (fun o i => (hb1.ext ((Ext.refl w2).alloc o)).cell i); have k2 : ∀ o i, (w2.alloc o).cell? ⟨w.heap.size + 1, i, none⟩ = #[Value.int .i64 lon, Value.int .i64 lat][i]? := (fun o i => (hb2.ext ((Ext.refl w2).alloc o)).cell i)))
      | (go_at_call 45; go_must (refine (cos_c _ _).mono ?_; rintro e w2 ⟨rfl, hx⟩; replace hw := hw.trans (bareN hx rfl rfl rfl rfl); replace hb3 := hb3.ext (bareN hx rfl rfl rfl rfl); replace hb2 := hb2.ext (bareN hx rfl rfl rfl rfl); replace hb1 := hb1.ext (bareN hx rfl rfl rfl rfl); clear c1 c2 hx; (try clear k1 k2); have c1 := hb1.cell; have c2 := hb2.cell; have k1 : ∀ o i, (w2.alloc o).cell? ⟨w.heap.size, i, none⟩ = #[Value.float .f64 a, Value.float .f64 f, Value.string _, Value.int .i64 mid, Value.float .f64 sc][i]? := (fun o i => (hb1.ext ((Ext.refl w2).alloc o)).cell i); have k2 : ∀ o i, (w2.alloc o).cell? ⟨w.heap.size + 1, i, none⟩ = #[Value.int .i64 lon, Value.int .i64 lat][i]? := (fun o i => (hb2.ext ((Ext.refl w2).alloc o)).cell i)))
      | (go_at_call 41; go_must (refine (signed_c _ _).mono ?_; rintro e w2 ⟨rfl, hx⟩; replace hw := hw.trans (bareN hx rfl rfl rfl rfl); replace hb3 := hb3.ext (bareN hx rfl rfl rfl rfl); replace hb2 := hb2.ext (bareN hx rfl rfl rfl rfl); replace hb1 := hb1.ext (bareN hx rfl rfl rfl rfl); clear c1 c2 hx; (try clear k1 k2); have c1 := hb1.cell; have c2 := hb2.cell; have k1 : ∀ o i, (w2.alloc o).cell? ⟨w.heap.size, i, none⟩ = #[Value.float .f64 a, Value.float .f64 f, Value.string _, Value.int .i64 mid, Value.float .f64 sc][i]? := (fun o i => (hb1.ext ((Ext.refl w2).alloc o)).cell i); have k2 : ∀ o i, (w2.alloc o).cell? ⟨w.heap.size + 1, i, none⟩ = #[Value.int .i64 lon, Value.int .i64 lat][i]? := (fun o i => (hb2.ext ((Ext.refl w2).alloc o)).cell i)))
      | (with_reducible refine upon_fl rfl ?_; intro r n hr))
  · have hbf : Blk (w2.alloc (.cells #[.float .f64 r, .float .f64 0] 53)) w2.heap.size 53 #[.float .f64 r, .float .f64 0] := Blk.new _ _ _
    have hwf : Ext w (w2.alloc (.cells #[.float .f64 r, .float .f64 0] 53)) := hw.alloc _
    have hsz := hw.size
    have hl3 := hb3.lt
    replace hb1 := hb1.ext ((Ext.refl w2).alloc (.cells #[.float .f64 r, .float .f64 0] 53))
    replace hb2 := hb2.ext ((Ext.refl w2).alloc (.cells #[.float .f64 r, .float .f64 0] 53))
    replace hb3 := hb3.ext ((Ext.refl w2).alloc (.cells #[.float .f64 r, .float .f64 0] 53))
    clear c1 c2 k1 k2
    refine wp_region_head 9 FT (by kernel_rfl) (by kernel_rfl) ?_
    simp only [List.take_succ_cons, List.take_zero, List.drop_succ_cons, List.drop_zero]
    repeat (first
      | (refine wpR_op rfl (fun w9 hw9 K hK => ?_); have k1 := (hb1.ext (bareN hw9 rfl rfl rfl rfl)).cell; have k2 := (hb2.ext (bareN hw9 rfl rfl rfl rfl)).cell; go_simp; refine hK _ ?_; clear hK K k1 k2 hw9 w9)
      | (refine wpR_op rfl (fun w9 hw9 K hK => ?_); go_simp; refine rel_call (FlR.call (paperA_c a f _ mid sc _)) (fun v => ?_) (fun v hv => ?_); (simp [FT, FU, spPap_iff]); obtain ⟨ra, rfl, hra⟩ := hv; refine hK _ ?_; clear hK K hw9 w9)
      | (refine wpR_op rfl (fun w9 hw9 K hK => ?_); go_simp; refine rel_call (FlR.call (iso_c a f lat _)) (fun v => ?_) (fun v hv => ?_); (simp [FT, FU, spGlI_iff]); obtain ⟨ri, rfl, hri⟩ := hv; refine hK _ ?_; clear hK K hw9 w9)
      | (refine wpR_op rfl (fun w9 hw9 K hK => ?_); go_simp; refine rel_fl rfl ?_; intro rx hrx; refine hK _ ?_; clear hK K hw9 w9))
    refine wpR_nil ?_
    intro w8 hx8 _
    replace hw := hwf.trans (bareN hx8 rfl rfl rfl rfl)
    replace hbf := hbf.ext (bareN hx8 rfl rfl rfl rfl)
    replace hb3 := hb3.ext (bareN hx8 rfl rfl rfl rfl)
    clear hb1 hb2 hx8 hwf
    generalize w2.heap.size = nb at *
    have cf := hbf.cell
    have ff := hbf.frozen
    go_wp2_with (first
      | (refine wpList_own rfl 53 _ _ rfl _ _ rfl rfl _ _ (hb3.same (fun n hn => setCell_other' _ _ _ _ _ hn) (Nat.ne_of_lt hl3)) (by kernel_rfl) rfl (by simp [Value.oneCell']) ?_; go_must (intro u bn en sn; replace hw := en w (Ext.setCell hw (by omega) _) (by omega); have kc := bn.cell; clear sn en hb3)))
    refine bodyPost_ret (v := .tuple #[flatV r rx, .nilIface]) (by simp [results, Tryd.results31, go_sem, kc]) rfl ⟨_, _, _, rfl, .nil, ?_, ?_, hw⟩
    · rw [HX.out]; simp [flatX, *, fbin, neg_can]
    · rw [HY.out]; simp [flatY, *, fbin, neg_can]
  · refine bodyPost_ret (v := .tuple #[flatV r u1, .nilIface]) (by simp [results, Tryd.results31, go_sem, kc]) rfl ⟨_, _, _, rfl, .nil, ?_, ?_, hw⟩
    · rw [HX.out]; simp [flatX, *, fbin, neg_can]
    · rw [HY.out]; simp [flatY, *, fbin, neg_can]
  · refine bodyPost_ret (v := .tuple #[flatV _ _, .nilIface]) (by simp [results, Tryd.results31, go_sem, kc]; exact ⟨rfl, rfl⟩) rfl ⟨_, _, _, rfl, .nil, ?_, ?_, hw⟩
    · rw [HX.out]; simp [flatX, *, fbin, neg_can]
    · rw [HY.out]; simp [flatY, *, fbin, neg_can]
set_option maxHeartbeats 4000000 in
theorem drawn0_c {A : Nat → Addr} (w : World) (h8 : W0 A w) : Calls Tryd.prog 28 #[] w (ExR (.bool true) w) := by
  obtain ⟨hk, ho1, ho2⟩ := drawn_num
  have HT0 : ∀ w, W0 A w → Calls Tryd.prog 31 #[paperV 4617315517961601024 0 sMer 0 4607182418800017408, placeW 90000000000 0] w (FlatR A 0 (flatX 0 4617315517961601024 0 4607182418800017408 0 90000000000 0) (flatY 0 4617315517961601024 0 4607182418800017408 0 90000000000 0) w) :=
    fun w h8 => to_ok0 .mer _ _ _ _ _ _ w h8 hk (by decide)
  clear hk
  generalize flatX 0 4617315517961601024 0 4607182418800017408 0 90000000000 0 = X at *
  generalize flatY 0 4617315517961601024 0 4607182418800017408 0 90000000000 0 = Y at *
  have HT := Lib.hid HT0
  clear HT0
  go_enter Tryd.func28, Tryd.ntmps28
  go_wp2_with (first
    | (go_at_call 31; go_must (refine (HT.out _ (h8.ext (by repeat (first | exact Ext.refl _ | refine Ext.alloc ?_ _)))).mono ?_; rintro e w1 ⟨x, y, v, rfl, he, hx, hy, hw⟩; cases he; have q1 : FloatKind.f64.format.order x 4620524332696102502 = some .gt := ((order_canL x (c := 4620524332696102502) (by decide +kernel)).symm.trans (by rw [hx]; exact ho1)); have q2 : FloatKind.f64.format.order x 4620535591695170929 = some .lt := ((order_canL x (c := 4620535591695170929) (by decide +kernel)).symm.trans (by rw [hx]; exact ho2)); clear ho1 ho2)))
  go_ret
  exact ⟨rfl, hw.alloc _⟩
end Go.Proofs.YtddjppaccpioiaaDoor

/- Walks: papers, with no error in sight. Printed by gen_flatgood.py. -/
namespace Go.Proofs.YtddjppaccpioiaaDoor
open Go.RowKit Go.Fp Go.Rel
set_option maxRecDepth 20000

set_option maxHeartbeats 16000000 in
theorem stretch_ok0 {A : Nat → Addr} {s : ByteArray} {n : Nat} (h : KindIs s n) (a f : Nat) (mid : Int) (sc : Nat) (lon lat : Int) (w : World) (h8 : W0 A w) (hk : chkP (papP (okG a f) n sc) n lat = 0) (h3 : n ≠ 3) :
    Calls Tryd.prog 33 #[paperV a f s mid sc, placeW lon lat] w (StrR A 0 (alP n a f sc lat) (acP n a f sc lat) w) := by
  have HC0 : ∀ w, W0 A w → Calls Tryd.prog 68 #[paperV a f s mid sc, placeW lon lat] w (ExR .nilIface w) := by
    intro w h8
    exact pcheck0_c h a f mid sc lon lat w hk
  have HC := Lib.hid HC0
  clear HC0 hk
  obtain ⟨X, hX⟩ : ∃ X, X = alP n a f sc lat := ⟨_, rfl⟩
  obtain ⟨Y, hY⟩ : ∃ Y, Y = acP n a f sc lat := ⟨_, rfl⟩
  rw [← hX, ← hY]
  have HX := Lib.hid hX
  have HY := Lib.hid hY
  clear hX hY
  cases h
  case not => exact absurd rfl h3
  all_goals
    clear h3
    go_enter Tryd.func33, Tryd.ntmps33
    go_wp2_with (first
      | (go_at_call 68; go_must (refine (HC.out _ (h8.ext (by repeat (first | exact Ext.refl _ | refine Ext.alloc ?_ _)))).mono ?_; rintro e w1 ⟨rfl, hx⟩; obtain ⟨hb1, hb2, hw⟩ := ext2 hx; have c1 := hb1.cell; have c2 := hb2.cell; clear hx))
      | (go_at_call 77; go_must (refine (ecc_c a f _).mono ?_; rintro e w2 ⟨e1, rfl, he1, hx⟩; replace hw := hw.trans (bareN hx rfl rfl rfl rfl); replace hb2 := hb2.ext (bareN hx rfl rfl rfl rfl); replace hb1 := hb1.ext (bareN hx rfl rfl rfl rfl); clear c1 c2 hx; have c1 := hb1.cell; have c2 := hb2.cell))
      | (go_at_call 44; go_must (refine (sin_c _ _).mono ?_; rintro e w2 ⟨rfl, hx⟩; replace hw := hw.trans (bareN hx rfl rfl rfl rfl); replace hb2 := hb2.ext (bareN hx rfl rfl rfl rfl); replace hb1 := hb1.ext (bareN hx rfl rfl rfl rfl); clear c1 c2 hx; have c1 := hb1.cell; have c2 := hb2.cell))
      | (go_at_call 45; go_must (refine (cos_c _ _).mono ?_; rintro e w2 ⟨rfl, hx⟩; replace hw := hw.trans (bareN hx rfl rfl rfl rfl); replace hb2 := hb2.ext (bareN hx rfl rfl rfl rfl); replace hb1 := hb1.ext (bareN hx rfl rfl rfl rfl); clear c1 c2 hx; have c1 := hb1.cell; have c2 := hb2.cell))
      | (go_at_call 63; go_must (refine (cross_c a f lat _).mono ?_; rintro e w2 ⟨n1, rfl, hn1, hx⟩; replace hw := hw.trans (bareN hx rfl rfl rfl rfl); replace hb2 := hb2.ext (bareN hx rfl rfl rfl rfl); replace hb1 := hb1.ext (bareN hx rfl rfl rfl rfl); clear c1 c2 hx; have c1 := hb1.cell; have c2 := hb2.cell))
      | (go_at_call 46; go_must (refine (sqrt_c _ _).mono ?_; rintro e w2 ⟨q1, rfl, hq1, hx⟩; replace hw := hw.trans (bareN hx rfl rfl rfl rfl); replace hb2 := hb2.ext (bareN hx rfl rfl rfl rfl); replace hb1 := hb1.ext (bareN hx rfl rfl rfl rfl); clear c1 c2 hx; have c1 := hb1.cell; have c2 := hb2.cell))
      | (go_at_call 70; go_must (refine (paperA_c a f _ mid sc _).mono ?_; rintro e w2 ⟨a1, rfl, ha1, hx⟩; replace hw := hw.trans (bareN hx rfl rfl rfl rfl); replace hb2 := hb2.ext (bareN hx rfl rfl rfl rfl); replace hb1 := hb1.ext (bareN hx rfl rfl rfl rfl); clear c1 c2 hx; have c1 := hb1.cell; have c2 := hb2.cell))
      | (go_at_call 69; go_must (refine (down_c a f _ mid sc lat _).mono ?_; rintro e w2 ⟨d1, rfl, hd1, hx⟩; replace hw := hw.trans (bareN hx rfl rfl rfl rfl); replace hb2 := hb2.ext (bareN hx rfl rfl rfl rfl); replace hb1 := hb1.ext (bareN hx rfl rfl rfl rfl); clear c1 c2 hx; have c1 := hb1.cell; have c2 := hb2.cell))
      | (with_reducible refine upon_fl rfl ?_; intro r n hr))
    clear c1 c2
    refine wp_region_all FU (by kernel_rfl) (by kernel_rfl) ?_
    repeat (first
      | (refine wpR_op rfl (fun w9 hw9 K hK => ?_); have k1 := (hb1.ext (bareN hw9 rfl rfl rfl rfl)).cell; have k2 := (hb2.ext (bareN hw9 rfl rfl rfl rfl)).cell; go_simp; refine hK _ ?_; clear hK K k1 k2 hw9 w9)
      | (refine wpR_op rfl (fun w9 hw9 K hK => ?_); go_simp; refine rel_call (ExR.call (sin_c _ _)) (fun v => ?_) (fun v hv => ?_); (simp [FU, spIntN_iff]); subst hv; refine hK _ ?_; clear hK K hw9 w9)
      | (refine wpR_op rfl (fun w9 hw9 K hK => ?_); go_simp; refine rel_call (ExR.call (cos_c _ _)) (fun v => ?_) (fun v hv => ?_); (simp [FU, spIntN_iff]); subst hv; refine hK _ ?_; clear hK K hw9 w9)
      | (refine wpR_op rfl (fun w9 hw9 K hK => ?_); go_simp; refine rel_fl rfl ?_; intro rx hrx; refine hK _ ?_; clear hK K hw9 w9))
    refine wpR_nil ?_
    intro w8 hx8 _
    replace hw := hw.trans (bareN hx8 rfl rfl rfl rfl)
    replace hb2 := hb2.ext (bareN hx8 rfl rfl rfl rfl)
    replace hb1 := hb1.ext (bareN hx8 rfl rfl rfl rfl)
    clear hx8
    have c1 := hb1.cell
    have c2 := hb2.cell
    go_wp2_with (first
      | (go_at_call 77; go_must (refine (ecc_c a f _).mono ?_; rintro e w2 ⟨e1, rfl, he1, hx⟩; replace hw := hw.trans (bareN hx rfl rfl rfl rfl); replace hb2 := hb2.ext (bareN hx rfl rfl rfl rfl); replace hb1 := hb1.ext (bareN hx rfl rfl rfl rfl); clear c1 c2 hx; have c1 := hb1.cell; have c2 := hb2.cell))
      | (go_at_call 44; go_must (refine (sin_c _ _).mono ?_; rintro e w2 ⟨rfl, hx⟩; replace hw := hw.trans (bareN hx rfl rfl rfl rfl); replace hb2 := hb2.ext (bareN hx rfl rfl rfl rfl); replace hb1 := hb1.ext (bareN hx rfl rfl rfl rfl); clear c1 c2 hx; have c1 := hb1.cell; have c2 := hb2.cell))
      | (go_at_call 45; go_must (refine (cos_c _ _).mono ?_; rintro e w2 ⟨rfl, hx⟩; replace hw := hw.trans (bareN hx rfl rfl rfl rfl); replace hb2 := hb2.ext (bareN hx rfl rfl rfl rfl); replace hb1 := hb1.ext (bareN hx rfl rfl rfl rfl); clear c1 c2 hx; have c1 := hb1.cell; have c2 := hb2.cell))
      | (go_at_call 63; go_must (refine (cross_c a f lat _).mono ?_; rintro e w2 ⟨n1, rfl, hn1, hx⟩; replace hw := hw.trans (bareN hx rfl rfl rfl rfl); replace hb2 := hb2.ext (bareN hx rfl rfl rfl rfl); replace hb1 := hb1.ext (bareN hx rfl rfl rfl rfl); clear c1 c2 hx; have c1 := hb1.cell; have c2 := hb2.cell))
      | (go_at_call 46; go_must (refine (sqrt_c _ _).mono ?_; rintro e w2 ⟨q1, rfl, hq1, hx⟩; replace hw := hw.trans (bareN hx rfl rfl rfl rfl); replace hb2 := hb2.ext (bareN hx rfl rfl rfl rfl); replace hb1 := hb1.ext (bareN hx rfl rfl rfl rfl); clear c1 c2 hx; have c1 := hb1.cell; have c2 := hb2.cell))
      | (go_at_call 70; go_must (refine (paperA_c a f _ mid sc _).mono ?_; rintro e w2 ⟨a1, rfl, ha1, hx⟩; replace hw := hw.trans (bareN hx rfl rfl rfl rfl); replace hb2 := hb2.ext (bareN hx rfl rfl rfl rfl); replace hb1 := hb1.ext (bareN hx rfl rfl rfl rfl); clear c1 c2 hx; have c1 := hb1.cell; have c2 := hb2.cell))
      | (go_at_call 69; go_must (refine (down_c a f _ mid sc lat _).mono ?_; rintro e w2 ⟨d1, rfl, hd1, hx⟩; replace hw := hw.trans (bareN hx rfl rfl rfl rfl); replace hb2 := hb2.ext (bareN hx rfl rfl rfl rfl); replace hb1 := hb1.ext (bareN hx rfl rfl rfl rfl); clear c1 c2 hx; have c1 := hb1.cell; have c2 := hb2.cell))
      | (with_reducible refine upon_fl rfl ?_; intro r n hr))
    clear c1 c2
    refine wp_region_all FU (by kernel_rfl) (by kernel_rfl) ?_
    repeat (first
      | (refine wpR_op rfl (fun w9 hw9 K hK => ?_); have k1 := (hb1.ext (bareN hw9 rfl rfl rfl rfl)).cell; have k2 := (hb2.ext (bareN hw9 rfl rfl rfl rfl)).cell; go_simp; refine hK _ ?_; clear hK K k1 k2 hw9 w9)
      | (refine wpR_op rfl (fun w9 hw9 K hK => ?_); go_simp; refine rel_call (FlR.call (sqrt_c _ _)) (fun v => ?_) (fun v hv => ?_); (simp [FU, spOne_iff]); obtain ⟨rq, rfl, hrq⟩ := hv; refine hK _ ?_; clear hK K hw9 w9)
      | (refine wpR_op rfl (fun w9 hw9 K hK => ?_); go_simp; refine rel_fl rfl ?_; intro rx hrx; refine hK _ ?_; clear hK K hw9 w9))
    refine wpR_nil ?_
    intro w8 hx8 _
    replace hw := hw.trans (bareN hx8 rfl rfl rfl rfl)
    replace hb2 := hb2.ext (bareN hx8 rfl rfl rfl rfl)
    replace hb1 := hb1.ext (bareN hx8 rfl rfl rfl rfl)
    clear hx8
    have c1 := hb1.cell
    have c2 := hb2.cell
    go_wp2_with (first
      | (go_at_call 77; go_must (refine (ecc_c a f _).mono ?_; rintro e w2 ⟨e1, rfl, he1, hx⟩; replace hw := hw.trans (bareN hx rfl rfl rfl rfl); replace hb2 := hb2.ext (bareN hx rfl rfl rfl rfl); replace hb1 := hb1.ext (bareN hx rfl rfl rfl rfl); clear c1 c2 hx; have c1 := hb1.cell; have c2 := hb2.cell))
      | (go_at_call 44; go_must (refine (sin_c _ _).mono ?_; rintro e w2 ⟨rfl, hx⟩; replace hw := hw.trans (bareN hx rfl rfl rfl rfl); replace hb2 := hb2.ext (bareN hx rfl rfl rfl rfl); replace hb1 := hb1.ext (bareN hx rfl rfl rfl rfl); clear c1 c2 hx; have c1 := hb1.cell; have c2 := hb2.cell))
      | (go_at_call 45; go_must (refine (cos_c _ _).mono ?_; rintro e w2 ⟨rfl, hx⟩; replace hw := hw.trans (bareN hx rfl rfl rfl rfl); replace hb2 := hb2.ext (bareN hx rfl rfl rfl rfl); replace hb1 := hb1.ext (bareN hx rfl rfl rfl rfl); clear c1 c2 hx; have c1 := hb1.cell; have c2 := hb2.cell))
      | (go_at_call 63; go_must (refine (cross_c a f lat _).mono ?_; rintro e w2 ⟨n1, rfl, hn1, hx⟩; replace hw := hw.trans (bareN hx rfl rfl rfl rfl); replace hb2 := hb2.ext (bareN hx rfl rfl rfl rfl); replace hb1 := hb1.ext (bareN hx rfl rfl rfl rfl); clear c1 c2 hx; have c1 := hb1.cell; have c2 := hb2.cell))
      | (go_at_call 46; go_must (refine (sqrt_c _ _).mono ?_; rintro e w2 ⟨q1, rfl, hq1, hx⟩; replace hw := hw.trans (bareN hx rfl rfl rfl rfl); replace hb2 := hb2.ext (bareN hx rfl rfl rfl rfl); replace hb1 := hb1.ext (bareN hx rfl rfl rfl rfl); clear c1 c2 hx; have c1 := hb1.cell; have c2 := hb2.cell))
      | (go_at_call 70; go_must (refine (paperA_c a f _ mid sc _).mono ?_; rintro e w2 ⟨a1, rfl, ha1, hx⟩; replace hw := hw.trans (bareN hx rfl rfl rfl rfl); replace hb2 := hb2.ext (bareN hx rfl rfl rfl rfl); replace hb1 := hb1.ext (bareN hx rfl rfl rfl rfl); clear c1 c2 hx; have c1 := hb1.cell; have c2 := hb2.cell))
      | (go_at_call 69; go_must (refine (down_c a f _ mid sc lat _).mono ?_; rintro e w2 ⟨d1, rfl, hd1, hx⟩; replace hw := hw.trans (bareN hx rfl rfl rfl rfl); replace hb2 := hb2.ext (bareN hx rfl rfl rfl rfl); replace hb1 := hb1.ext (bareN hx rfl rfl rfl rfl); clear c1 c2 hx; have c1 := hb1.cell; have c2 := hb2.cell))
      | (with_reducible refine upon_fl rfl ?_; intro r n hr))
  all_goals
    refine bodyPost_ret (v := .tuple #[.float .f64 _, .float .f64 _, .nilIface]) (by simp [results, Tryd.results33, go_sem]; exact ⟨rfl, rfl⟩) rfl ⟨_, _, _, rfl, .nil, ?_, ?_, (by repeat (first | exact hw | refine Ext.drewN ?_ _))⟩
    · rw [HX.out]; simp [alP, acP, rQ, wQ, mQ, *, fbin]
    · rw [HY.out]; simp [acP, rQ, *, fbin]

set_option maxHeartbeats 8000000 in
theorem from_pol0 {A : Nat → Addr} (a f : Nat) (mid : Int) (sc x y : Nat) (r : Int) (w : World) (h8 : W0 A w) (hk : papP (okG a f) 2 sc = 0) (hx : btw x m1e8 c1e8 = true) (hy : btw y m1e8 c1e8 = true) (hI : LatOk (isoP f) (fromY 2 a f sc x y) r) :
    Calls Tryd.prog 32 #[paperV a f sPol mid sc, flatV x y] w (FromR A 0 (fromLon 2 a sc x y mid) r w) := by
  have HC := (show Hid (∀ w, W0 A w → Calls Tryd.prog 73 #[paperV a f sPol mid sc] w (ExR .nilIface w)) from Lib.hid (fun w _ => pvalid0_c KindIs.pol a f mid sc hk w))
  obtain ⟨Y, hY⟩ : ∃ Y, Y = fromY 2 a f sc x y := ⟨_, rfl⟩
  rw [← hY] at hI
  have HL : Hid (∀ x', can x' = Y → ∀ w, Calls Tryd.prog 66 #[globeV a f, .float .f64 x'] w (ExR (.int .i64 r) w)) := Lib.hid (fun x' h w => lat_c a f x' r w (by rw [h]; exact hI))
  have HY := Lib.hid hY
  obtain ⟨L, hL⟩ : ∃ L, L = (angleP (can x) (can (Op.negFloat .f64 y))).1 := ⟨_, rfl⟩
  obtain ⟨M, hM⟩ : ∃ M, M = IntKind.i64.wrap (normP mid + L) := ⟨_, rfl⟩
  have HLon : Hid (fromLon 2 a sc x y mid = signP M) := by
    show fromLon 2 a sc x y mid = signP M
    rw [hM, hL, neg_can]; rfl
  have HM := Lib.hid hM
  have HLL := Lib.hid hL
  clear hk hY hI hM hL
  obtain ⟨o1, o2⟩ := btw_yes hx
  obtain ⟨o3, o4⟩ := btw_yes hy
  clear hx hy
  go_enter Tryd.func32, Tryd.ntmps32
  go_wp2_with (first
    | (go_at_call 73; go_must (refine (HC.out _ (h8.ext (by repeat (first | exact Ext.refl _ | refine Ext.alloc ?_ _)))).mono ?_; rintro e w1 ⟨rfl, hx⟩; obtain ⟨hb1, hb2, hb3, hw⟩ := ext3 hx; have c1 := hb1.cell; have c2 := hb2.cell; clear hx))
    | (go_at_call 42; go_must (refine (norm_c _ _).mono ?_; rintro e w2 ⟨rfl, rfl⟩))
    | (go_at_call 46; go_must (refine (sqrt_c _ _).mono ?_; rintro e w2 ⟨rq, rfl, hrq, hx⟩; replace hw := hw.trans (bareN hx rfl rfl rfl rfl); replace hb3 := hb3.ext (bareN hx rfl rfl rfl rfl); replace hb2 := hb2.ext (bareN hx rfl rfl rfl rfl); replace hb1 := hb1.ext (bareN hx rfl rfl rfl rfl); clear c1 c2 hx; have c1 := hb1.cell; have c2 := hb2.cell))
    | (go_at_call 47; go_must (refine (angle_c _ _ _).mono ?_; rintro e w2 ⟨rfl, hx⟩; replace hw := hw.trans (bareN hx rfl rfl rfl rfl); replace hb3 := hb3.ext (bareN hx rfl rfl rfl rfl); replace hb2 := hb2.ext (bareN hx rfl rfl rfl rfl); replace hb1 := hb1.ext (bareN hx rfl rfl rfl rfl); clear c1 c2 hx; have c1 := hb1.cell; have c2 := hb2.cell))
    | (with_reducible refine upon_fl rfl ?_; intro r0 n hr))
  rw [← HLL.out]
  have W1 := HM.out.symm
  clear c1 c2 o1 o2 o3 o4
  refine wp_region_head 18 (FTL r) (by kernel_rfl) (by kernel_rfl) ?_
  simp only [List.take_succ_cons, List.take_zero, List.drop_succ_cons, List.drop_zero]
  repeat (first
    | (refine wpR_op rfl (fun w9 hw9 K hK => ?_); have k1 := (hb1.ext (bareN hw9 rfl rfl rfl rfl)).cell; go_simp; refine hK _ ?_; clear hK K k1 hw9 w9)
    | (refine wpR_op rfl (fun w9 hw9 K hK => ?_); go_simp; refine rel_call (ExR.call (signed_c _ _)) (fun v => ?_) (fun v hv => ?_); (simp [FTL, FT, FU, spNorm_iff]); subst hv; refine hK _ ?_; clear hK K hw9 w9)
    | (refine wpR_op rfl (fun w9 hw9 K hK => ?_); go_simp; refine rel_call (FlR.call (paperA_c a f _ mid sc _)) (fun v => ?_) (fun v hv => ?_); (simp [FTL, FT, FU, spPap_iff]); obtain ⟨ra, rfl, hra⟩ := hv; refine hK _ ?_; clear hK K hw9 w9)
    | (refine wpR_op rfl (fun w9 hw9 K hK => ?_); go_simp; refine rel_call (FlR.call (pole_c a f _ mid sc _)) (fun v => ?_) (fun v hv => ?_); (simp [FTL, FT, FU, spPap_iff]); obtain ⟨ro, rfl, hro⟩ := hv; refine hK _ ?_; clear hK K hw9 w9)
    | (refine wpR_op rfl (fun w9 hw9 K hK => ?_); go_simp; refine rel_fl rfl ?_; intro rx hrx; refine hK _ ?_; clear hK K hw9 w9)
    | (refine wpR_op rfl (fun w9 hw9 K hK => ?_); go_simp; refine rel_call (FlR.call (lnC_c _ _)) (fun v => ?_) (fun v hv => ?_); (simp [FTL, FT, FU, spOne_iff]); obtain ⟨rl, rfl, hrl⟩ := hv; refine hK _ ?_; clear hK K hw9 w9)
    | (refine wpR_op rfl (fun w9 hw9 K hK => ?_); go_simp; refine rel_call (ExR.call (HL.out _ (by rw [HY.out]; simp [fromY, *, fbin, neg_can]) _)) (fun v => ?_) (fun v hv => ?_); (rw [ftl_r]); subst hv; refine hK _ ?_; clear hK K hw9 w9)
    | (refine wpR_op rfl (fun w9 hw9 K hK => ?_); go_simp; refine hK _ ?_; clear hK K hw9 w9))
  refine wpR_nil ?_
  intro w8 hx8 _
  replace hw := hw.trans (bareN hx8 rfl rfl rfl rfl)
  replace hb3 := hb3.ext (bareN hx8 rfl rfl rfl rfl)
  clear hb1 hb2 hx8
  go_wp2_with (first | (refine wpList_own rfl 26 _ _ rfl _ _ rfl rfl _ _ hb3 (by kernel_rfl) rfl (by simp [Value.oneCell']) ?_; go_must (intro u bn en sn; replace hw := en w hw (by omega); have kc := bn.cell; clear sn en hb3)))
  refine bodyPost_ret (v := .tuple #[placeW (signP M) r, .nilIface]) (by simp [results, Tryd.results32, go_sem, kc]) rfl ⟨_, by rw [HLon.out], .nil, hw⟩
set_option maxHeartbeats 8000000 in
theorem from_mer0 {A : Nat → Addr} (a f : Nat) (mid : Int) (sc x y : Nat) (r : Int) (w : World) (h8 : W0 A w) (hk : papP (okG a f) 0 sc = 0) (hx : btw x m1e8 c1e8 = true) (hy : btw y m1e8 c1e8 = true) (hf : farQ (eastQ a sc (can x)) = false) (hI : LatOk (isoP f) (fromY 0 a f sc x y) r) :
    Calls Tryd.prog 32 #[paperV a f sMer mid sc, flatV x y] w (FromR A 0 (fromLon 0 a sc x y mid) r w) := by
  have HC := (show Hid (∀ w, W0 A w → Calls Tryd.prog 73 #[paperV a f sMer mid sc] w (ExR .nilIface w)) from Lib.hid (fun w _ => pvalid0_c KindIs.mer a f mid sc hk w))
  obtain ⟨Y, hY⟩ : ∃ Y, Y = fromY 0 a f sc x y := ⟨_, rfl⟩
  rw [← hY] at hI
  have HL : Hid (∀ x', can x' = Y → ∀ w, Calls Tryd.prog 66 #[globeV a f, .float .f64 x'] w (ExR (.int .i64 r) w)) := Lib.hid (fun x' h w => lat_c a f x' r w (by rw [h]; exact hI))
  have HY := Lib.hid hY
  have HF := Lib.hid hf
  clear hk hY hI hf
  obtain ⟨o1, o2⟩ := btw_yes hx
  obtain ⟨o3, o4⟩ := btw_yes hy
  clear hx hy
  go_enter Tryd.func32, Tryd.ntmps32
  go_wp2_with (first
    | (go_at_call 73; go_must (refine (HC.out _ (h8.ext (by repeat (first | exact Ext.refl _ | refine Ext.alloc ?_ _)))).mono ?_; rintro e w1 ⟨rfl, hx⟩; obtain ⟨hb1, hb2, hb3, hw⟩ := ext3 hx; have c1 := hb1.cell; have c2 := hb2.cell; clear hx))
    | (go_at_call 42; go_must (refine (norm_c _ _).mono ?_; rintro e w2 ⟨rfl, rfl⟩)))
  clear c1 c2 o1 o2 o3 o4
  refine wp_region_all FT (by kernel_rfl) (by kernel_rfl) ?_
  repeat (first
    | (refine wpR_op rfl (fun w9 hw9 K hK => ?_); have k1 := (hb1.ext (bareN hw9 rfl rfl rfl rfl)).cell; have k2 := (hb2.ext (bareN hw9 rfl rfl rfl rfl)).cell; go_simp; refine hK _ ?_; clear hK K k1 k2 hw9 w9)
    | (refine wpR_op rfl (fun w9 hw9 K hK => ?_); go_simp; refine rel_call (FlR.call (paperA_c a f _ mid sc _)) (fun v => ?_) (fun v hv => ?_); (simp [FT, FU, spPap_iff]); obtain ⟨ra, rfl, hra⟩ := hv; refine hK _ ?_; clear hK K hw9 w9)
    | (refine wpR_op rfl (fun w9 hw9 K hK => ?_); go_simp; refine rel_fl rfl ?_; intro rx hrx; refine hK _ ?_; clear hK K hw9 w9))
  refine wpR_nil ?_
  intro w8 hx8 _
  replace hw := hw.trans (bareN hx8 rfl rfl rfl rfl)
  replace hb3 := hb3.ext (bareN hx8 rfl rfl rfl rfl)
  replace hb2 := hb2.ext (bareN hx8 rfl rfl rfl rfl)
  replace hb1 := hb1.ext (bareN hx8 rfl rfl rfl rfl)
  clear hx8
  have hq : can rx = eastQ a sc (can x) := by rw [hrx, hra]; rfl
  have c1 := hb1.cell
  have c2 := hb2.cell
  obtain ⟨o5, o6⟩ := far_no hq HF.out
  obtain ⟨N, hN⟩ : ∃ N, N = nearP (can rx) := ⟨_, rfl⟩
  have W0 := hN.symm
  have HLon : Hid (fromLon 0 a sc x y mid = signP (IntKind.i64.wrap (normP mid + N))) := by
    show fromLon 0 a sc x y mid = _
    rw [hN, hq]; rfl
  obtain ⟨M, hM⟩ : ∃ M, M = IntKind.i64.wrap (normP mid + N) := ⟨_, rfl⟩
  have W1 := hM.symm
  rw [← hM] at HLon
  clear hrx hq hN hM hra
  go_wp2_with (first
    | (go_at_call 43; go_must (refine (nearest_c _ _).mono ?_; rintro e w2 ⟨rfl, hx⟩; replace hw := hw.trans (bareN hx rfl rfl rfl rfl); replace hb3 := hb3.ext (bareN hx rfl rfl rfl rfl); replace hb2 := hb2.ext (bareN hx rfl rfl rfl rfl); replace hb1 := hb1.ext (bareN hx rfl rfl rfl rfl); clear c1 c2 hx; have c1 := hb1.cell; have c2 := hb2.cell))
    | (go_at_call 41; go_must (refine (signed_c _ _).mono ?_; rintro e w2 ⟨rfl, hx⟩; replace hw := hw.trans (bareN hx rfl rfl rfl rfl); replace hb3 := hb3.ext (bareN hx rfl rfl rfl rfl); replace hb2 := hb2.ext (bareN hx rfl rfl rfl rfl); replace hb1 := hb1.ext (bareN hx rfl rfl rfl rfl); clear c1 c2 hx; have c1 := hb1.cell; have c2 := hb2.cell; have k1 : ∀ o i, (w2.alloc o).cell? ⟨w.heap.size, i, none⟩ = #[Value.float .f64 a, Value.float .f64 f, Value.string _, Value.int .i64 mid, Value.float .f64 sc][i]? := (fun o i => (hb1.ext ((Ext.refl w2).alloc o)).cell i); have k2 : ∀ o i, (w2.alloc o).cell? ⟨w.heap.size + 1, i, none⟩ = #[Value.float .f64 x, Value.float .f64 y][i]? := (fun o i => (hb2.ext ((Ext.refl w2).alloc o)).cell i)))
    | (go_at_call 70; go_must (refine (paperA_c a f _ mid sc _).mono ?_; rintro e w2 ⟨a1, rfl, ha1, hx⟩; replace hw := hw.trans (bareN hx rfl rfl rfl rfl); replace hb3 := hb3.ext (bareN hx rfl rfl rfl rfl); replace hb2 := hb2.ext (bareN hx rfl rfl rfl rfl); replace hb1 := hb1.ext (bareN hx rfl rfl rfl rfl); clear c1 c2 hx; have c1 := hb1.cell; have c2 := hb2.cell))
    | (with_reducible refine upon_fl rfl ?_; intro r0 n hr))
  have hbf : Blk (w2.alloc (.cells #[.int .i64 (signP M), .int .i64 0] 26)) w2.heap.size 26 #[.int .i64 (signP M), .int .i64 0] := Blk.new _ _ _
  have hwf : Ext w (w2.alloc (.cells #[.int .i64 (signP M), .int .i64 0] 26)) := hw.alloc _
  have hsz := hw.size
  have hl3 := hb3.lt
  replace hb1 := hb1.ext ((Ext.refl w2).alloc (.cells #[.int .i64 (signP M), .int .i64 0] 26))
  replace hb2 := hb2.ext ((Ext.refl w2).alloc (.cells #[.int .i64 (signP M), .int .i64 0] 26))
  replace hb3 := hb3.ext ((Ext.refl w2).alloc (.cells #[.int .i64 (signP M), .int .i64 0] 26))
  clear c1 c2 k1 k2 o5 o6 W0 W1
  refine wp_region_head 9 (FTL r) (by kernel_rfl) (by kernel_rfl) ?_
  simp only [List.take_succ_cons, List.take_zero, List.drop_succ_cons, List.drop_zero]
  repeat (first
    | (refine wpR_op rfl (fun w9 hw9 K hK => ?_); have k1 := (hb1.ext (bareN hw9 rfl rfl rfl rfl)).cell; have k2 := (hb2.ext (bareN hw9 rfl rfl rfl rfl)).cell; go_simp; refine hK _ ?_; clear hK K k1 k2 hw9 w9)
    | (refine wpR_op rfl (fun w9 hw9 K hK => ?_); go_simp; refine rel_call (FlR.call (paperA_c a f _ mid sc _)) (fun v => ?_) (fun v hv => ?_); (simp [FTL, FT, FU, spPap_iff]); obtain ⟨ra, rfl, hra⟩ := hv; refine hK _ ?_; clear hK K hw9 w9)
    | (refine wpR_op rfl (fun w9 hw9 K hK => ?_); go_simp; refine rel_fl rfl ?_; intro rx hrx; refine hK _ ?_; clear hK K hw9 w9)
    | (refine wpR_op rfl (fun w9 hw9 K hK => ?_); go_simp; refine rel_call (ExR.call (HL.out _ (by rw [HY.out]; simp [fromY, *, fbin, neg_can]) _)) (fun v => ?_) (fun v hv => ?_); (rw [ftl_r]); subst hv; refine hK _ ?_; clear hK K hw9 w9))
  refine wpR_nil ?_
  intro w8 hx8 _
  replace hw := hwf.trans (bareN hx8 rfl rfl rfl rfl)
  replace hbf := hbf.ext (bareN hx8 rfl rfl rfl rfl)
  replace hb3 := hb3.ext (bareN hx8 rfl rfl rfl rfl)
  clear hb1 hb2 hx8 hwf
  generalize w2.heap.size = nb at *
  have cf := hbf.cell
  have ff := hbf.frozen
  go_wp2_with (first
    | (refine wpList_own rfl 26 _ _ rfl _ _ rfl rfl _ _ (hb3.same (fun n hn => setCell_other' _ _ _ _ _ hn) (Nat.ne_of_lt hl3)) (by kernel_rfl) rfl (by simp [Value.oneCell']) ?_; go_must (intro u bn en sn; replace hw := en w (Ext.setCell hw (by omega) _) (by omega); have kc := bn.cell; clear sn en hb3)))
  refine bodyPost_ret (v := .tuple #[placeW (signP M) r, .nilIface]) (by simp [results, Tryd.results32, go_sem, kc]) rfl ⟨_, by rw [HLon.out], .nil, hw⟩
set_option maxHeartbeats 8000000 in
theorem from_equ0 {A : Nat → Addr} (a f : Nat) (mid : Int) (sc x y : Nat) (r : Int) (w : World) (h8 : W0 A w) (hk : papP (okG a f) 1 sc = 0) (hx : btw x m1e8 c1e8 = true) (hy : btw y m1e8 c1e8 = true) (hf : farQ (eastQ a sc (can x)) = false) (hI : LatOk (upP a f sc) (fromY 1 a f sc x y) r) :
    Calls Tryd.prog 32 #[paperV a f sEqu mid sc, flatV x y] w (FromR A 0 (fromLon 1 a sc x y mid) r w) := by
  have HC := (show Hid (∀ w, W0 A w → Calls Tryd.prog 73 #[paperV a f sEqu mid sc] w (ExR .nilIface w)) from Lib.hid (fun w _ => pvalid0_c KindIs.equ a f mid sc hk w))
  obtain ⟨Y, hY⟩ : ∃ Y, Y = fromY 1 a f sc x y := ⟨_, rfl⟩
  rw [← hY] at hI
  have HL : Hid (∀ x', can x' = Y → ∀ w, Calls Tryd.prog 76 #[.func (.func 72) #[paperV a f sEqu mid sc] #[], .float .f64 x'] w (ExR (.int .i64 r) w)) := Lib.hid (fun x' h w => found_up _ _ x' r w (by rw [h]; exact hI) (fun m w' _ => up_c a f sEqu mid sc m w'))
  have HY := Lib.hid hY
  have HF := Lib.hid hf
  clear hk hY hI hf
  obtain ⟨o1, o2⟩ := btw_yes hx
  obtain ⟨o3, o4⟩ := btw_yes hy
  clear hx hy
  go_enter Tryd.func32, Tryd.ntmps32
  go_wp2_with (first
    | (go_at_call 73; go_must (refine (HC.out _ (h8.ext (by repeat (first | exact Ext.refl _ | refine Ext.alloc ?_ _)))).mono ?_; rintro e w1 ⟨rfl, hx⟩; obtain ⟨hb1, hb2, hb3, hw⟩ := ext3 hx; have c1 := hb1.cell; have c2 := hb2.cell; clear hx))
    | (go_at_call 42; go_must (refine (norm_c _ _).mono ?_; rintro e w2 ⟨rfl, rfl⟩)))
  clear c1 c2 o1 o2 o3 o4
  refine wp_region_all FT (by kernel_rfl) (by kernel_rfl) ?_
  repeat (first
    | (refine wpR_op rfl (fun w9 hw9 K hK => ?_); have k1 := (hb1.ext (bareN hw9 rfl rfl rfl rfl)).cell; have k2 := (hb2.ext (bareN hw9 rfl rfl rfl rfl)).cell; go_simp; refine hK _ ?_; clear hK K k1 k2 hw9 w9)
    | (refine wpR_op rfl (fun w9 hw9 K hK => ?_); go_simp; refine rel_call (FlR.call (paperA_c a f _ mid sc _)) (fun v => ?_) (fun v hv => ?_); (simp [FT, FU, spPap_iff]); obtain ⟨ra, rfl, hra⟩ := hv; refine hK _ ?_; clear hK K hw9 w9)
    | (refine wpR_op rfl (fun w9 hw9 K hK => ?_); go_simp; refine rel_fl rfl ?_; intro rx hrx; refine hK _ ?_; clear hK K hw9 w9))
  refine wpR_nil ?_
  intro w8 hx8 _
  replace hw := hw.trans (bareN hx8 rfl rfl rfl rfl)
  replace hb3 := hb3.ext (bareN hx8 rfl rfl rfl rfl)
  replace hb2 := hb2.ext (bareN hx8 rfl rfl rfl rfl)
  replace hb1 := hb1.ext (bareN hx8 rfl rfl rfl rfl)
  clear hx8
  have hq : can rx = eastQ a sc (can x) := by rw [hrx, hra]; rfl
  have c1 := hb1.cell
  have c2 := hb2.cell
  obtain ⟨o5, o6⟩ := far_no hq HF.out
  obtain ⟨N, hN⟩ : ∃ N, N = nearP (can rx) := ⟨_, rfl⟩
  have W0 := hN.symm
  have HLon : Hid (fromLon 1 a sc x y mid = signP (IntKind.i64.wrap (normP mid + N))) := by
    show fromLon 1 a sc x y mid = _
    rw [hN, hq]; rfl
  obtain ⟨M, hM⟩ : ∃ M, M = IntKind.i64.wrap (normP mid + N) := ⟨_, rfl⟩
  have W1 := hM.symm
  rw [← hM] at HLon
  clear hrx hq hN hM hra
  go_wp2_with (first
    | (go_at_call 43; go_must (refine (nearest_c _ _).mono ?_; rintro e w2 ⟨rfl, hx⟩; replace hw := hw.trans (bareN hx rfl rfl rfl rfl); replace hb3 := hb3.ext (bareN hx rfl rfl rfl rfl); replace hb2 := hb2.ext (bareN hx rfl rfl rfl rfl); replace hb1 := hb1.ext (bareN hx rfl rfl rfl rfl); clear c1 c2 hx; have c1 := hb1.cell; have c2 := hb2.cell))
    | (go_at_call 41; go_must (refine (signed_c _ _).mono ?_; rintro e w2 ⟨rfl, hx⟩; replace hw := hw.trans (bareN hx rfl rfl rfl rfl); replace hb3 := hb3.ext (bareN hx rfl rfl rfl rfl); replace hb2 := hb2.ext (bareN hx rfl rfl rfl rfl); replace hb1 := hb1.ext (bareN hx rfl rfl rfl rfl); clear c1 c2 hx; have c1 := hb1.cell; have c2 := hb2.cell; have k1 : ∀ o i, (w2.alloc o).cell? ⟨w.heap.size, i, none⟩ = #[Value.float .f64 a, Value.float .f64 f, Value.string _, Value.int .i64 mid, Value.float .f64 sc][i]? := (fun o i => (hb1.ext ((Ext.refl w2).alloc o)).cell i); have k2 : ∀ o i, (w2.alloc o).cell? ⟨w.heap.size + 1, i, none⟩ = #[Value.float .f64 x, Value.float .f64 y][i]? := (fun o i => (hb2.ext ((Ext.refl w2).alloc o)).cell i)))
    | (go_at_call 70; go_must (refine (paperA_c a f _ mid sc _).mono ?_; rintro e w2 ⟨a1, rfl, ha1, hx⟩; replace hw := hw.trans (bareN hx rfl rfl rfl rfl); replace hb3 := hb3.ext (bareN hx rfl rfl rfl rfl); replace hb2 := hb2.ext (bareN hx rfl rfl rfl rfl); replace hb1 := hb1.ext (bareN hx rfl rfl rfl rfl); clear c1 c2 hx; have c1 := hb1.cell; have c2 := hb2.cell))
    | (with_reducible refine upon_fl rfl ?_; intro r0 n hr))
  have hbf : Blk (w2.alloc (.cells #[.int .i64 (signP M), .int .i64 0] 26)) w2.heap.size 26 #[.int .i64 (signP M), .int .i64 0] := Blk.new _ _ _
  have hwf : Ext w (w2.alloc (.cells #[.int .i64 (signP M), .int .i64 0] 26)) := hw.alloc _
  have hsz := hw.size
  have hl3 := hb3.lt
  replace hb1 := hb1.ext ((Ext.refl w2).alloc (.cells #[.int .i64 (signP M), .int .i64 0] 26))
  replace hb2 := hb2.ext ((Ext.refl w2).alloc (.cells #[.int .i64 (signP M), .int .i64 0] 26))
  replace hb3 := hb3.ext ((Ext.refl w2).alloc (.cells #[.int .i64 (signP M), .int .i64 0] 26))
  clear c1 c2 k1 k2 o5 o6 W0 W1
  refine (HL.out _ (by rw [HY.out]; simp [fromY]) _).mono ?_
  rintro e w8 ⟨rfl, hx8⟩
  replace hw := hwf.trans hx8
  replace hbf := hbf.ext hx8
  replace hb3 := hb3.ext hx8
  clear hb1 hb2 hx8 hwf
  generalize w2.heap.size = nb at *
  have cf := hbf.cell
  have ff := hbf.frozen
  go_wp2_with (first
    | (refine wpList_own rfl 26 _ _ rfl _ _ rfl rfl _ _ (hb3.same (fun n hn => setCell_other' _ _ _ _ _ hn) (Nat.ne_of_lt hl3)) (by kernel_rfl) rfl (by simp [Value.oneCell']) ?_; go_must (intro u bn en sn; replace hw := en w (Ext.setCell hw (by omega) _) (by omega); have kc := bn.cell; clear sn en hb3)))
  refine bodyPost_ret (v := .tuple #[placeW (signP M) r, .nilIface]) (by simp [results, Tryd.results32, go_sem, kc]) rfl ⟨_, by rw [HLon.out], .nil, hw⟩

end Go.Proofs.YtddjppaccpioiaaDoor

/- What papers of the law's globes answer: places come back, farther north is farther up, shapes and areas stay. -/
namespace Go.Proofs.YtddjppaccpioiaaDoor
open Go.RowKit Go.Fp Go.Fp.Tri Go.Rel Ieee
set_option maxRecDepth 20000

theorem LatIs.bis {g : Int → Nat} {X : Nat} {lo hi r : Int} (h : LatIs g X lo hi r) (hlt : lo < hi) : (leW (g r) X = true ∨ r = lo) ∧ (leW (g (r + 1)) X = false ∨ r + 1 = hi) := by
  induction h with
  | done h => exact ⟨.inr rfl, .inr (by omega)⟩
  | low h hl _ ih =>
    obtain ⟨a, b⟩ := ih (by omega)
    refine ⟨.inl ?_, b⟩
    rcases a with a | a
    · exact a
    · rw [a]; exact hl
  | high h hl _ ih =>
    obtain ⟨a, b⟩ := ih (by omega)
    refine ⟨a, ?_⟩
    rcases b with b | b
    · exact .inl b
    · rw [b]; exact .inl hl
/-- a globe and a scale for which the law promises something -/
structure Fit (a f sc : Nat) : Prop where
  g : Snd a f 0
  fs : Fp.Fin sc
  s1 : 1 / 2 ≤ vl sc
  s2 : vl sc ≤ 2
variable {a f sc : Nat}
theorem Fit.E (h : Fit a f sc) : EOk (eccP f) := by
  obtain ⟨x, y, z⟩ := ecc_ok h.g
  exact ⟨x, y, z⟩
theorem Fit.e (h : Fit a f sc) : EccOk (fsqrt (eccP f)) := (ecc_sqrt h.E).1
theorem Fit.A (h : Fit a f sc) : Fp.Fin (fmul (can a) (can sc)) ∧ 400000 ≤ vl (fmul (can a) (can sc)) ∧ vl (fmul (can a) (can sc)) ≤ 20001000 := by
  have u1 : uu = 1 / 9007199254740992 := uu_eq
  obtain ⟨fa, a1, a2, _⟩ := h.g
  have s1 := h.s1
  have s2 := h.s2
  rw [fa.can, h.fs.can]
  have lo := mul_le2 (a := 1000000) (A := vl a) (b := 1 / 2) (B := vl sc) (by grind) a1 (by grind) s1
  have hi := mul_le2 (a := vl a) (A := 10000000) (b := vl sc) (B := 2) (by grind) a2 (by grind) s2
  obtain ⟨f1, e1⟩ := mulE fa h.fs 20000000 (by constructor <;> grind) (by grind)
  obtain ⟨_, _⟩ := e1
  rw [u1] at *
  exact ⟨f1, by grind, by grind⟩
theorem Fit.B (h : Fit a f sc) : Fp.Fin (fdiv (can a) (can sc)) ∧ 1 / 10 ≤ vl (fdiv (can a) (can sc)) ∧ vl (fdiv (can a) (can sc)) ≤ 20001000 := by
  have u1 : uu = 1 / 9007199254740992 := uu_eq
  obtain ⟨fa, a1, a2, _⟩ := h.g
  have s1 := h.s1
  have s2 := h.s2
  rw [fa.can, h.fs.can]
  have c := div_mul_c (a := vl a) (R := vl a / vl sc) (ne_of_pos (show 0 < vl sc by grind)) rfl
  have hD : 500000 ≤ vl a / vl sc ∧ vl a / vl sc ≤ 20000000 := by
    generalize vl a / vl sc = D at *
    generalize vl sc = p at *
    have p0 : 0 < p := by grind
    constructor
    · exact le_of_scaled p0 (by grind)
    · exact le_of_scaled p0 (by grind)
  obtain ⟨f1, e1⟩ := divE fa h.fs (ne_of_pos (show 0 < vl sc by grind)) 20000000 (by constructor <;> grind) (by grind)
  obtain ⟨_, _⟩ := e1
  rw [u1] at *
  exact ⟨f1, by grind, by grind⟩
theorem iso_link (f : Nat) {m : Int} (h1 : -89000000000 ≤ m) (h2 : m ≤ 89000000000) : isoP f m = isoW (fsqrt (eccP f)) (sinP m) := by
  obtain ⟨fs, _⟩ := sin_in h1 h2
  unfold isoP isoW lnR ratW
  rw [fs.can, v_one.1.can, v_two.1.can]
theorem up_link (h : Fit a f sc) {m : Int} (h1 : -89000000000 ≤ m) (h2 : m ≤ 89000000000) : upP a f sc m = upW (fdiv (can a) (can sc)) (upS (eccP f) (sinP m)) := by
  obtain ⟨fs, bs⟩ := sin_in h1 h2
  unfold upP upQ upW upS qW gW wW
  rw [fs.can, v_one.1.can, v_two.1.can]
  have hl : lnR (fmul (fsqrt (eccP f)) (sinP m)) = lnP (ratW (fmul (fsqrt (eccP f)) (sinP m))) := by
    obtain ⟨ft, _, bt⟩ := small_t h.e fs bs
    have fl := (lnA_small ft bt).1
    unfold ratW at fl ⊢
    unfold lnR
    rw [v_one.1.can, fl.can]
  rw [hl]
theorem pole_link (h : Fit a f sc) : poleP f = poleW (fsqrt (eccP f)) := by
  have u1 : uu = 1 / 9007199254740992 := uu_eq
  have e0 := h.e.e0
  have e1 := h.e.e1
  obtain ⟨f1, d1⟩ := addE v_one.1 h.e.fe (12 / 10) (by rw [v_one.2]; constructor <;> grind) (by grind)
  obtain ⟨f2, d2⟩ := subE v_one.1 h.e.fe 1 (by rw [v_one.2]; constructor <;> grind) (by grind)
  rw [v_one.2] at d1 d2
  obtain ⟨g1, _⟩ := ln1 f1 (by obtain ⟨_, _⟩ := d1; rw [u1] at *; constructor <;> grind)
  obtain ⟨g2, _⟩ := ln1 f2 (by obtain ⟨_, _⟩ := d2; rw [u1] at *; constructor <;> grind)
  unfold poleP poleW poleA
  rw [v_one.1.can, v_two.1.can, g1.can, g2.can]
theorem down_link (h : Fit a f sc) {m : Int} (h1 : -89000000000 ≤ m) (h2 : m ≤ 89000000000) : downP a f sc m = downW (fsqrt (eccP f)) (fmul (can a) (can sc)) (isoW (fsqrt (eccP f)) (sinP m)) := by
  unfold downP downW
  rw [iso_link f h1 h2, pole_link h, v_two.1.can]
theorem far_of {L : Nat} (fL : Fp.Fin L) (h : Wn (vl L) (3199 / 1000)) : farQ L = false := by
  have v1 : Fp.Fin c32 ∧ vl c32 = 7205759403792794 / 2251799813685248 := vl_const (s := false) (m := 7205759403792794) (k := 51) (by decide +kernel) (by decide +kernel)
  have v2 : Fp.Fin m32 ∧ vl m32 = -7205759403792794 / 2251799813685248 := vl_const (s := true) (m := 7205759403792794) (k := 51) (by decide +kernel) (by decide +kernel)
  obtain ⟨_, _⟩ := h
  have o1 : ¬ D.order L c32 = some .gt := by rw [order_gt fL v1.1, v1.2]; grind
  have o2 : ¬ D.order L m32 = some .lt := by rw [order_lt fL v2.1, v2.2]; grind
  unfold farQ
  rw [Bool.or_eq_false_iff]
  exact ⟨beq_eq_false_iff_ne.2 o1, beq_eq_false_iff_ne.2 o2⟩
theorem in_1e8 {x : Nat} (fx : Fp.Fin x) (h : Wn (vl x) 100000000) : btw x Go.Proofs.YtddjppaccpioiaaDoor.m1e8 Go.Proofs.YtddjppaccpioiaaDoor.c1e8 = true := by
  obtain ⟨_, _⟩ := h
  unfold btw
  rw [Bool.and_eq_true]
  exact ⟨(fge_vl fx v_m1e8.1).2 (by rw [v_m1e8.2]; grind), (fle_vl fx v_1e8.1).2 (by rw [v_1e8.2]; grind)⟩
/-- a place goes to paper and comes back -/
structure Good (n a f sc : Nat) (mid lon lat : Int) : Prop where
  fx : Fp.Fin (flatX n a f sc mid lon lat)
  fy : Fp.Fin (flatY n a f sc mid lon lat)
  bx : btw (flatX n a f sc mid lon lat) Go.Proofs.YtddjppaccpioiaaDoor.m1e8 Go.Proofs.YtddjppaccpioiaaDoor.c1e8 = true
  bY : btw (flatY n a f sc mid lon lat) Go.Proofs.YtddjppaccpioiaaDoor.m1e8 Go.Proofs.YtddjppaccpioiaaDoor.c1e8 = true
  far : n ≠ 2 → farQ (eastQ a sc (flatX n a f sc mid lon lat)) = false
  bLat : ∀ r, LatOk (fromG n a f sc) (fromY n a f sc (flatX n a f sc mid lon lat) (flatY n a f sc mid lon lat)) r → -50 ≤ apartP r lat ∧ apartP r lat ≤ 50
  bLon : -1 ≤ apartP (fromLon n a sc (flatX n a f sc mid lon lat) (flatY n a f sc mid lon lat) mid) lon ∧ apartP (fromLon n a sc (flatX n a f sc mid lon lat) (flatY n a f sc mid lon lat) mid) lon ≤ 1
theorem apart_50 {r lat : Int} (h1 : r - lat ≤ 50) (h2 : lat - r ≤ 50) : -50 ≤ apartP r lat ∧ apartP r lat ≤ 50 := by
  unfold apartP signP normP
  split <;> omega
/-- what halving tells, with another spelling of the function -/
theorem bis_link {g g' : Int → Nat} {X r : _} (h : LatOk g X r) (hg : ∀ m, -89000000000 ≤ m → m ≤ 89000000000 → g m = g' m) :
    -89000000000 ≤ r ∧ r ≤ 89000000000 ∧ (fle (g' r) X = true ∨ r = -89000000000) ∧ (fle (g' (r + 1)) X = false ∨ r = 89000000000) := by
  obtain ⟨b1, b2⟩ := LatIs.bounds h (by omega)
  obtain ⟨h1, h2⟩ := LatIs.bis h (by omega)
  refine ⟨b1, by omega, ?_, ?_⟩
  · rw [← hg r b1 (by omega)]; exact h1
  · by_cases hr : r = 89000000000
    · exact .inr hr
    · rw [← hg (r + 1) (by omega) (by omega)]
      rcases h2 with h2 | h2
      · exact .inl h2
      · omega
theorem sign_rng (x : Int) : -180000000000 ≤ signP x ∧ signP x ≤ 180000000000 := by
  unfold signP normP
  split <;> omega
theorem wrap_nm (mid : Int) {o : Int} (h : -400000000000 ≤ o) (h2 : o ≤ 400000000000) : IntKind.i64.wrap (normP mid + o) = normP mid + o :=
  IntWalk.i64_in _ ⟨by have := normP_lo mid; omega, by have := normP_hi mid; omega⟩
theorem east_good (h : Fit a f sc) (n : Nat) (hn : n ≠ 2) (mid lon lat : Int) :
    Fp.Fin (flatX n a f sc mid lon lat) ∧ btw (flatX n a f sc mid lon lat) Go.Proofs.YtddjppaccpioiaaDoor.m1e8 Go.Proofs.YtddjppaccpioiaaDoor.c1e8 = true ∧ farQ (eastQ a sc (flatX n a f sc mid lon lat)) = false ∧
    ∀ y, apartP (fromLon n a sc (flatX n a f sc mid lon lat) y mid) lon = 0 := by
  obtain ⟨fA, a1, a2⟩ := h.A
  obtain ⟨r1, r2⟩ := sign_rng (offN mid lon)
  obtain ⟨f0, _⟩ := vl_int (signP (offN mid lon)) (by omega)
  have hX : flatX n a f sc mid lon lat = fmul (fmul (can a) (can sc)) (fmul (floatOfInt .f64 (signP (offN mid lon))) RAD) := by
    unfold flatX
    rw [if_neg hn, f0.can]
    show fmul _ (fmul _ (can RAD)) = _
    rw [v_rad.1.can]
  rw [hX]
  obtain ⟨x1, x2, x3, x4, x5⟩ := east_there fA (by grind) a2 r1 r2
  refine ⟨x1, in_1e8 x1 x2, ?_, ?_⟩
  · exact far_of x3 x4
  · intro y
    unfold fromLon
    rw [if_neg hn]
    unfold eastQ
    rw [x1.can, near_east r1 r2 x3 x5, wrap_nm mid (by omega) (by omega)]
    exact lon_same mid lon
theorem good_mer (h : Fit a f sc) (mid lon : Int) {lat : Int} (l1 : -85000000000 ≤ lat) (l2 : lat ≤ 85000000000) : Good 0 a f sc mid lon lat := by
  obtain ⟨x1, x2, x3, x4⟩ := east_good h 0 (by decide) mid lon lat
  obtain ⟨fA, a1, a2⟩ := h.A
  have hY : flatY 0 a f sc mid lon lat = fmul (fmul (can a) (can sc)) (isoW (fsqrt (eccP f)) (sinP lat)) := by
    unfold flatY
    rw [if_neg (by decide), if_neg (by decide), iso_link f (by omega) (by omega)]
  obtain ⟨y1, y2⟩ := merc_there h.e fA (by grind) a2 l1 l2
  have x4' := x4 (flatY 0 a f sc mid lon lat)
  refine ⟨x1, by rw [hY]; exact y1, x2, by rw [hY]; exact in_1e8 y1 y2, fun _ => x3, ?_, ⟨by omega, by omega⟩⟩
  intro r hr
  obtain ⟨b1, b2, b3, b4⟩ := bis_link (g' := fun m => isoW (fsqrt (eccP f)) (sinP m)) hr (fun m m1 m2 => by show fromG 0 a f sc m = _; unfold fromG; rw [if_neg (by decide)]; exact iso_link f m1 m2)
  obtain ⟨c1, c2⟩ := merc_back h.e fA (by grind) (by grind) l1 l2 (X := fromY 0 a f sc (flatX 0 a f sc mid lon lat) (flatY 0 a f sc mid lon lat)) (by
    unfold fromY
    rw [if_neg (by decide), if_neg (by decide), hY, y1.can]) b1 b2 b3 b4
  exact apart_50 c1 c2
theorem good_equ (h : Fit a f sc) (mid lon : Int) {lat : Int} (l1 : -85000000000 ≤ lat) (l2 : lat ≤ 85000000000) : Good 1 a f sc mid lon lat := by
  obtain ⟨x1, x2, x3, x4⟩ := east_good h 1 (by decide) mid lon lat
  obtain ⟨fA, a1, a2⟩ := h.B
  have hY : flatY 1 a f sc mid lon lat = upW (fdiv (can a) (can sc)) (upS (eccP f) (sinP lat)) := by
    unfold flatY
    rw [if_neg (by decide), if_pos rfl, up_link h (by omega) (by omega)]
  obtain ⟨y1, y2⟩ := up_fin h.E fA a1 a2 (m := lat) (by omega) (by omega)
  have x4' := x4 (flatY 1 a f sc mid lon lat)
  refine ⟨x1, by rw [hY]; exact y1, x2, by rw [hY]; exact in_1e8 y1 y2, fun _ => x3, ?_, ⟨by omega, by omega⟩⟩
  intro r hr
  obtain ⟨b1, b2, b3, b4⟩ := bis_link (g' := fun m => upW (fdiv (can a) (can sc)) (upS (eccP f) (sinP m))) hr (fun m m1 m2 => by show fromG 1 a f sc m = _; unfold fromG; rw [if_pos rfl]; exact up_link h m1 m2)
  obtain ⟨c1, c2⟩ := equal_back h.E fA a1 a2 l1 l2 (X := fromY 1 a f sc (flatX 1 a f sc mid lon lat) (flatY 1 a f sc mid lon lat)) (by
    unfold fromY
    rw [if_neg (by decide), if_pos rfl, hY, y1.can]) b1 b2 b3 b4
  exact apart_50 c1 c2
theorem neg_neg {z : Nat} (fz : Fp.Fin z) : ∃ s m i, D.read z = .number s m i ∧ D.read (negC (negC z)) = .number s m i := by
  obtain ⟨f1, _, e1⟩ := negC_fin fz
  obtain ⟨_, _, e2⟩ := negC_fin f1
  obtain ⟨s, m, i, h⟩ := fz
  refine ⟨s, m, i, h, ?_⟩
  rw [e2, e1, neg_read (neg_read h), Bool.not_not]
end Go.Proofs.YtddjppaccpioiaaDoor

/- What papers of the law's globes answer, further: the polar paper there and back, how much longer things are, farther north is farther up. -/
namespace Go.Proofs.YtddjppaccpioiaaDoor
open Go.RowKit Go.Fp Go.Fp.Tri Go.Rel Ieee
set_option maxRecDepth 20000
variable {a f sc : Nat}
theorem negC_back {z : Nat} (fz : Fp.Fin z) : negC (negC z) = z := by
  obtain ⟨f1, _, e1⟩ := negC_fin fz
  obtain ⟨_, _, e2⟩ := negC_fin f1
  rw [e2, e1]
  unfold Op.negFloat
  rw [Nat.xor_assoc, Nat.xor_self, Nat.xor_zero]
theorem angle_rng (y x : Nat) : 0 ≤ (angleP y x).1 ∧ (angleP y x).1 ≤ 360000000000 := by
  have hq := quad_range (absW x) (absW y)
  have hn := norm_range (360000000000 - quad (absW x) (absW y))
  unfold angleP
  split
  · simp
  · simp only []
    split
    · simp only []; omega
    · split
      · simp only []; omega
      · split
        · simp only []; omega
        · simp only []; omega
theorem good_pol (h : Fit a f sc) (mid lon : Int) {lat : Int} (l1 : 1000000000 ≤ lat) (l2 : lat ≤ 85000000000) : Good 2 a f sc mid lon lat := by
  obtain ⟨fA, a1, a2⟩ := h.A
  obtain ⟨fI, i1, i2⟩ := iso_pos h.e l1 l2
  have hd := down_link h (m := lat) (by omega) (by omega)
  obtain ⟨_, ⟨fd, _, _⟩, d1, d2⟩ := down_near h.e fA a1 a2 fI i1 i2
  rw [← hd] at fd d1 d2
  obtain ⟨C0, S0, ⟨fC, _⟩, ⟨fS, _⟩, _, _⟩ := lon_two (offN mid lon)
  obtain ⟨x1, x2, y1, y2, r1, r2⟩ := polar_there fd d1 d2 (offN mid lon)
  have hX : flatX 2 a f sc mid lon lat = fmul (downP a f sc lat) (sinP (offN mid lon)) := by unfold flatX; rw [if_pos rfl, fS.can]
  have hY : flatY 2 a f sc mid lon lat = negC (fmul (downP a f sc lat) (cosP (offN mid lon))) := by unfold flatY; rw [if_pos rfl, fC.can]
  obtain ⟨n1, n2, n3⟩ := negC_fin y1
  refine ⟨by rw [hX]; exact x1, by rw [hY]; exact n1, by rw [hX]; exact in_1e8 x1 x2, by rw [hY]; exact in_1e8 n1 (by rw [n2]; obtain ⟨_, _⟩ := y2; constructor <;> grind), fun h => absurd rfl h, ?_, ?_⟩
  · intro r hr
    obtain ⟨b1, b2, b3, b4⟩ := bis_link (g' := fun m => isoW (fsqrt (eccP f)) (sinP m)) hr (fun m m1 m2 => by show fromG 2 a f sc m = _; unfold fromG; rw [if_neg (by decide)]; exact iso_link f m1 m2)
    obtain ⟨c1, c2⟩ := polar_back h.e fA a1 a2 l1 l2 r1 (by rw [← hd]; exact r2) (X := fromY 2 a f sc (flatX 2 a f sc mid lon lat) (flatY 2 a f sc mid lon lat)) (by
      unfold fromY
      rw [if_pos rfl, hX, hY, x1.can, n1.can, pole_link h, v_two.1.can]) b1 b2 b3 b4
    exact apart_50 c1 c2
  · have hL : fromLon 2 a sc (flatX 2 a f sc mid lon lat) (flatY 2 a f sc mid lon lat) mid = signP (normP mid + (angleP (fmul (downP a f sc lat) (sinP (offN mid lon))) (fmul (downP a f sc lat) (cosP (offN mid lon)))).1) := by
      unfold fromLon
      rw [if_pos rfl, hX, hY, x1.can, n1.can, negC_back y1]
      obtain ⟨g1, g2⟩ := angle_rng (fmul (downP a f sc lat) (sinP (offN mid lon))) (fmul (downP a f sc lat) (cosP (offN mid lon)))
      rw [wrap_nm mid (by omega) (by omega)]
    rw [hL]
    have g := lon_back (lon := offN mid lon) fd (by grind) (by grind)
    unfold angS at g
    exact lon_polar g.1 g.2
theorem cos_85 {m : Int} (h1 : -85000000000 ≤ m) (h2 : m ≤ 85000000000) : Fp.Fin (cosP m) ∧ 1 / 100 ≤ vl (cosP m) ∧ vl (cosP m) ≤ 1002 / 1000 := by
  have u1 : uu = 1 / 9007199254740992 := uu_eq
  obtain ⟨_, f, e⟩ := trig_lat (a := m) (by omega) (by omega)
  have rl := rho_lo
  have key : ∀ n : Int, 0 ≤ n → n ≤ 85000000000 → 2 / 100 ≤ cI n := by
    intro n n0 n1
    rcases cI_ge n0 (show n ≤ 90000000000 by omega) with k | k
    · grind
    · have t := castle n1
      have e2 : ((85000000000 : Int) : Rat) = 85000000000 := rfl
      rw [e2] at t
      have t2 := Rat.mul_le_mul_of_nonneg_right (show (5000000000 : Rat) ≤ 90000000000 - (n : Rat) by grind) (show (0 : Rat) ≤ rho by grind)
      grind
  have b := wn_cI (m := m) (by omega) (by omega)
  refine ⟨f, ?_, ?_⟩
  · rcases Int.lt_or_le m 0 with hm | hm
    · have k := key (-m) (by omega) (by omega)
      obtain ⟨_, o⟩ := sI_odd (m := -m) (by omega) (by omega)
      rw [Int.neg_neg] at o
      have := o.1
      have := e.1
      unfold tol at *
      grind
    · have k := key m hm h2
      have := e.1
      unfold tol at *
      grind
  · have := e.2
    have := b.2
    unfold tol at *
    grind
/-- how much longer things are: along and across as rational numbers -/
theorem stretch_facts (h : Fit a f sc) (n : Nat) {lat : Int} (l1 : -85000000000 ≤ lat) (l2 : lat ≤ 85000000000) (hp : n = 2 → 1000000000 ≤ lat) :
    ∃ T : Rat, Rl (acP n a f sc lat) T (10 * uu) ∧ (n ≠ 1 → Rl (alP n a f sc lat) T (20 * uu)) ∧ (n = 1 → alP n a f sc lat = fdiv one1 (acP n a f sc lat)) ∧ 1 / 10000000000 ≤ T ∧ T ≤ 10000000000 := by
  have u1 : uu = 1 / 9007199254740992 := uu_eq
  obtain ⟨fA, a1, a2⟩ := h.A
  obtain ⟨fs, bs⟩ := sin_in85 l1 l2
  obtain ⟨fc, c1, c2⟩ := cos_85 l1 l2
  have hE := h.E
  obtain ⟨fw, _, w1, w2⟩ := wW_near hE fs (bs.mono (by grind))
  obtain ⟨fS, S1, S2⟩ := fsqrt_pos fw (by grind) (big_le (by grind))
  obtain ⟨fO, eO⟩ := oneE_ok h.g
  have E0 := hE.E0
  have E1 := hE.E1
  have hS : 9 / 10 ≤ vl (fsqrt (wW (eccP f) (sinP lat))) ∧ vl (fsqrt (wW (eccP f) (sinP lat))) ≤ 11 / 10 := by
    generalize vl (fsqrt (wW (eccP f) (sinP lat))) = r at *
    generalize vl (wW (eccP f) (sinP lat)) = v at *
    obtain ⟨q1, q2⟩ := S2
    rw [u1] at q1 q2
    constructor
    · rcases Rat.le_total (a := 9 / 10) (b := r) with hh | hh
      · exact hh
      · exfalso
        have := Rat.mul_le_mul_of_nonneg_left hh S1
        grind
    · rcases Rat.le_total (a := r) (b := 11 / 10) with hh | hh
      · exact hh
      · exfalso
        have := Rat.mul_le_mul_of_nonneg_left hh S1
        grind
  obtain ⟨fa, A1, A2, _⟩ := h.g
  have hO : 9 / 10 ≤ vl (fsub (can cOne) (eccP f)) ∧ vl (fsub (can cOne) (eccP f)) ≤ 11 / 10 := by
    obtain ⟨q1, q2⟩ := eO
    rw [u1] at q1 q2
    constructor <;> grind
  have hR : Fp.Fin (rQ n a f sc lat) ∧ 1 / 10 ≤ vl (rQ n a f sc lat) ∧ vl (rQ n a f sc lat) ≤ 10000000000 := by
    unfold rQ
    by_cases hn : n = 2
    · rw [if_pos hn, down_link h (m := lat) (by omega) (by omega)]
      obtain ⟨fI, i1, i2⟩ := iso_pos h.e (hp hn) l2
      obtain ⟨_, ⟨fd, _, _⟩, d1, d2⟩ := down_near h.e fA a1 a2 fI i1 i2
      exact ⟨fd, by grind, by grind⟩
    · rw [if_neg hn]
      exact ⟨fA, by grind, by grind⟩
  obtain ⟨hR0, hR1, hR2⟩ := hR
  obtain ⟨g1, g2, _, g4, g5⟩ := stretch_near hR0 hR1 hR2 fO hO.1 hO.2 fw (by grind) (by grind) fc c1 (by grind) fa A1 A2 fS hS.1 hS.2
  have hw : wQ f lat = wW (eccP f) (sinP lat) := by
    unfold wQ wW
    rw [fs.can, v_one.1.can]
  have hac : acP n a f sc lat = fdiv (rQ n a f sc lat) (fmul (fdiv a (fsqrt (wW (eccP f) (sinP lat)))) (cosP lat)) := by
    unfold acP crossP wW
    rw [fs.can, fc.can, fa.can, v_one.1.can]
  refine ⟨_, by rw [hac]; exact g1, fun hn => ?_, fun hn => ?_, g5, g4⟩
  · have hal : alP n a f sc lat = fdiv (fdiv (fmul (rQ n a f sc lat) (fsub (can cOne) (eccP f))) (fmul (wW (eccP f) (sinP lat)) (cosP lat))) (fdiv (fmul a (fsub (can cOne) (eccP f))) (fmul (wW (eccP f) (sinP lat)) (fsqrt (wW (eccP f) (sinP lat))))) := by
      unfold alP mQ
      rw [if_neg hn, hw, fc.can, fa.can]
    rw [hal]
    exact g2
  · unfold alP
    rw [if_pos hn, v_one.1.can]
/-- farther north is farther up -/
theorem up_more (h : Fit a f sc) (n : Nat) (hn : n = 0 ∨ n = 1) (mid lon : Int) {lat north : Int} (l1 : -85000000000 ≤ lat) (hno : 1000 ≤ north) (l2 : lat + north ≤ 85000000000) :
    D.order (flatY n a f sc mid lon (lat + north)) (flatY n a f sc mid lon lat) = some .gt := by
  rcases hn with rfl | rfl
  · obtain ⟨fA, a1, a2⟩ := h.A
    have g1 := good_mer h mid lon (lat := lat) (by omega) (by omega)
    have g2 := good_mer h mid lon (lat := lat + north) (by omega) (by omega)
    refine (order_gt g2.fy g1.fy).2 ?_
    have e : ∀ m : Int, -85000000000 ≤ m → m ≤ 85000000000 → flatY 0 a f sc mid lon m = fmul (fmul (can a) (can sc)) (isoW (fsqrt (eccP f)) (sinP m)) := by
      intro m h1 h2
      unfold flatY
      rw [if_neg (by decide), if_neg (by decide), iso_link f (by omega) (by omega)]
    rw [e _ (by omega) (by omega), e _ (by omega) (by omega)]
    exact merc_up h.e fA (by grind) a2 l1 hno l2
  · obtain ⟨fA, a1, a2⟩ := h.B
    have g1 := good_equ h mid lon (lat := lat) (by omega) (by omega)
    have g2 := good_equ h mid lon (lat := lat + north) (by omega) (by omega)
    refine (order_gt g2.fy g1.fy).2 ?_
    have e : ∀ m : Int, -85000000000 ≤ m → m ≤ 85000000000 → flatY 1 a f sc mid lon m = upW (fdiv (can a) (can sc)) (upS (eccP f) (sinP m)) := by
      intro m h1 h2
      unfold flatY
      rw [if_neg (by decide), if_pos rfl, up_link h (by omega) (by omega)]
    rw [e _ (by omega) (by omega), e _ (by omega) (by omega)]
    exact up_apart h.E fA (by grind) a2 ⟨by omega, by omega, by omega, .inl ⟨by omega, by omega⟩⟩
end Go.Proofs.YtddjppaccpioiaaDoor

/- The walk of the statement FlatGood: what it is told. -/
namespace Go.Proofs.YtddjppaccpioiaaDoor
open Go.RowKit Go.Fp Go.Fp.Tri Go.Rel
set_option maxRecDepth 20000
variable {a f sc : Nat}
abbrev c1e6 : Nat := 4696837146684686336
abbrev c1e7 : Nat := 4711630319722168320
abbrev c01 : Nat := 4576918229304087675
abbrev c50 : Nat := 4632233691727265792
abbrev cHalf : Nat := 4602678819172646912
abbrev cTwoS : Nat := 4611686018427387904
abbrev c12 : Nat := 4427486594234968593
abbrev m12 : Nat := 13650858631089744401
theorem v_1e6 : Fp.Fin c1e6 ∧ vl c1e6 = 1000000 := vl_const (s := false) (m := 8589934592000000) (k := 33) (by decide +kernel) (by decide +kernel)
theorem v_1e7 : Fp.Fin c1e7 ∧ vl c1e7 = 10000000 := vl_const (s := false) (m := 5368709120000000) (k := 29) (by decide +kernel) (by decide +kernel)
theorem v_01 : Fp.Fin c01 ∧ vl c01 = 5764607523034235 / 576460752303423488 := vl_const (s := false) (m := 5764607523034235) (k := 59) (by decide +kernel) (by decide +kernel)
theorem v_50 : Fp.Fin c50 ∧ vl c50 = 50 := vl_const (s := false) (m := 7036874417766400) (k := 47) (by decide +kernel) (by decide +kernel)
theorem v_half : Fp.Fin cHalf ∧ vl cHalf = 1 / 2 := vl_const (s := false) (m := 4503599627370496) (k := 53) (by decide +kernel) (by decide +kernel)
theorem v_m12' : Fp.Fin m12 ∧ vl m12 = -(4951760157141521 / 4951760157141521099596496896) := vl_const (s := true) (m := 4951760157141521) (k := 92) (by decide +kernel) (by decide +kernel)
theorem eq_of_can {x c : Nat} (hc : Fp.Fin c) (h : can x = c) : x = c := can_num' h (by
  obtain ⟨s, m, i, hr⟩ := hc
  unfold isNan
  rw [hr]; rfl)
set_option maxHeartbeats 4000000 in
theorem apart_c (p q : Int) (w : World) : Calls Tryd.prog 16 #[.int .i64 p, .int .i64 q] w (ExR (.int .i64 (if apartP p q < 0 then -apartP p q else apartP p q)) w) := by
  obtain ⟨p0, p1⟩ := norm_range p
  obtain ⟨q0, q1⟩ := norm_range q
  have HA : Hid (signP (normP p - normP q) = apartP p q) := Lib.hid rfl
  have HN := Lib.hid (fun w => normOf_c p w)
  have HM := Lib.hid (fun w => normOf_c q w)
  have HS := Lib.hid (signedAngle_c (normP p - normP q))
  rw [HA.out] at HS
  have hr : -360000000000 ≤ apartP p q ∧ apartP p q ≤ 360000000000 := by
    unfold apartP signP
    have := norm_range (normP p - normP q)
    split <;> omega
  clear HA
  generalize apartP p q = d at *
  generalize normP p = x at *
  generalize normP q = y at *
  obtain ⟨r0, r1⟩ := hr
  have tk : Hid True := trivial
  by_cases hd : d < 0
  · rw [if_pos hd]
    go_enter Tryd.func16, Tryd.ntmps16
    go_wp2_with (first
      | (go_at_call 21; clear tk; go_must (refine (HN.out _).mono ?_; rintro e w1 ⟨rfl, rfl⟩))
      | (go_at_call 21; go_must (refine (HM.out _).mono ?_; rintro e w1 ⟨rfl, rfl⟩))
      | (go_at_call 56; go_must (refine (HS.out _).mono ?_; rintro e w2 ⟨rfl, hx⟩)))
    go_ret
    exact ⟨rfl, hx⟩
  · rw [if_neg hd]
    go_enter Tryd.func16, Tryd.ntmps16
    go_wp2_with (first
      | (go_at_call 21; clear tk; go_must (refine (HN.out _).mono ?_; rintro e w1 ⟨rfl, rfl⟩))
      | (go_at_call 21; go_must (refine (HM.out _).mono ?_; rintro e w1 ⟨rfl, rfl⟩))
      | (go_at_call 56; go_must (refine (HS.out _).mono ?_; rintro e w2 ⟨rfl, hx⟩)))
    go_ret
    exact ⟨rfl, hx⟩
theorem cosLat_c (a : Int) (w : World) : Calls Tryd.prog 27 #[.int .i64 a] w (ExR (.float .f64 (cosP a)) w) := by
  go_enter Tryd.func27, Tryd.ntmps27
  go_wp2_with (first
    | (go_at_call 18; go_must (refine (sincos_c _ _).mono ?_; rintro e w1 ⟨rfl, rfl⟩)))
  go_ret
  exact ⟨rfl, Ext.refl _⟩
set_option maxHeartbeats 4000000 in
theorem within_c (x y : Nat) (w : World) : Calls Tryd.prog 22 #[.float .f64 x, .float .f64 y] w (ExR (.bool (fle x y && fge x (Op.negFloat .f64 y))) w) := by
  cases h1 : fle x y with
  | false =>
    have G2 : (FloatKind.f64.format.order x y == some .lt || FloatKind.f64.format.order x y == some .eq) = false := h1
    clear h1
    rw [Bool.false_and]
    go_enter Tryd.func22, Tryd.ntmps22
    go_wp2_with fail
    all_goals go_ret
    all_goals exact ⟨rfl, Ext.refl _⟩
  | true =>
    have G2 : (FloatKind.f64.format.order x y == some .lt || FloatKind.f64.format.order x y == some .eq) = true := h1
    clear h1
    rw [Bool.true_and]
    cases h2 : fge x (Op.negFloat .f64 y) with
    | false =>
      have G1 : (FloatKind.f64.format.order x (Op.negFloat .f64 y) == some .gt || FloatKind.f64.format.order x (Op.negFloat .f64 y) == some .eq) = false := h2
      clear h2
      go_enter Tryd.func22, Tryd.ntmps22
      go_wp2_with fail
      all_goals go_ret
      all_goals exact ⟨rfl, Ext.refl _⟩
    | true =>
      have G1 : (FloatKind.f64.format.order x (Op.negFloat .f64 y) == some .gt || FloatKind.f64.format.order x (Op.negFloat .f64 y) == some .eq) = true := h2
      clear h2
      go_enter Tryd.func22, Tryd.ntmps22
      go_wp2_with fail
      all_goals go_ret
      all_goals exact ⟨rfl, Ext.refl _⟩
/-- a globe of which the document says how good it is -/
def mildB (a f : Nat) : Bool := fge a c1e6 && fle a c1e7 && fge f 0 && fle f c01
set_option maxHeartbeats 4000000 in
theorem mild_c (a f : Nat) (w : World) : Calls Tryd.prog 25 #[globeV a f] w (ExR (.bool (mildB a f)) w) := by
  unfold mildB
  cases b1 : fge a c1e6 with
  | false =>
    have G1 : (FloatKind.f64.format.order a c1e6 == some .gt || FloatKind.f64.format.order a c1e6 == some .eq) = false := b1
    clear b1
    simp only [Bool.false_and]
    go_enter Tryd.func25, Tryd.ntmps25
    go_wp2_with fail
    all_goals go_ret
    all_goals exact ⟨rfl, by repeat (first | exact Ext.refl _ | refine Ext.alloc ?_ _)⟩
  | true =>
  have G1 : (FloatKind.f64.format.order a c1e6 == some .gt || FloatKind.f64.format.order a c1e6 == some .eq) = true := b1
  clear b1
  cases b2 : fle a c1e7 with
  | false =>
    have G2 : (FloatKind.f64.format.order a c1e7 == some .lt || FloatKind.f64.format.order a c1e7 == some .eq) = false := b2
    clear b2
    simp only [Bool.false_and, Bool.true_and]
    go_enter Tryd.func25, Tryd.ntmps25
    go_wp2_with fail
    all_goals go_ret
    all_goals exact ⟨rfl, by repeat (first | exact Ext.refl _ | refine Ext.alloc ?_ _)⟩
  | true =>
  have G2 : (FloatKind.f64.format.order a c1e7 == some .lt || FloatKind.f64.format.order a c1e7 == some .eq) = true := b2
  clear b2
  cases b3 : fge f 0 with
  | false =>
    have G3 : (FloatKind.f64.format.order f 0 == some .gt || FloatKind.f64.format.order f 0 == some .eq) = false := b3
    clear b3
    simp only [Bool.false_and, Bool.true_and]
    go_enter Tryd.func25, Tryd.ntmps25
    go_wp2_with fail
    all_goals go_ret
    all_goals exact ⟨rfl, by repeat (first | exact Ext.refl _ | refine Ext.alloc ?_ _)⟩
  | true =>
  have G3 : (FloatKind.f64.format.order f 0 == some .gt || FloatKind.f64.format.order f 0 == some .eq) = true := b3
  clear b3
  cases b4 : fle f c01 with
  | false =>
    have G4 : (FloatKind.f64.format.order f c01 == some .lt || FloatKind.f64.format.order f c01 == some .eq) = false := b4
    clear b4
    simp only [Bool.true_and]
    go_enter Tryd.func25, Tryd.ntmps25
    go_wp2_with fail
    all_goals go_ret
    all_goals exact ⟨rfl, by repeat (first | exact Ext.refl _ | refine Ext.alloc ?_ _)⟩
  | true =>
    have G4 : (FloatKind.f64.format.order f c01 == some .lt || FloatKind.f64.format.order f c01 == some .eq) = true := b4
    clear b4
    simp only [Bool.true_and]
    go_enter Tryd.func25, Tryd.ntmps25
    go_wp2_with fail
    all_goals go_ret
    all_goals exact ⟨rfl, by repeat (first | exact Ext.refl _ | refine Ext.alloc ?_ _)⟩
theorem fit_of (hm : mildB a f = true) (hb : btw sc 4591870180066957722 4621819117588971520 = true) (h1 : D.order sc cHalf ≠ some .lt) (h2 : D.order sc cTwoS ≠ some .gt) : Fit a f sc := by
  unfold mildB at hm
  simp only [Bool.and_eq_true] at hm
  obtain ⟨⟨⟨b1, b2⟩, b3⟩, b4⟩ := hm
  obtain ⟨x1, x2, x3⟩ := btw_vl v_1e6.1 v_1e7.1 b1 b2
  obtain ⟨y1, y2, y3⟩ := btw_vl v_0.1 v_01.1 b3 b4
  rw [v_1e6.2] at x2
  rw [v_1e7.2] at x3
  rw [v_0.2] at y2
  rw [v_01.2] at y3
  have w1 : Fp.Fin 4591870180066957722 := (vl_const (q := 7205759403792794 / 72057594037927936) (s := false) (m := 7205759403792794) (k := 56) (by decide +kernel) (by decide +kernel)).1
  have w2 : Fp.Fin 4621819117588971520 := (vl_const (q := 10) (s := false) (m := 5629499534213120) (k := 49) (by decide +kernel) (by decide +kernel)).1
  unfold btw at hb
  rw [Bool.and_eq_true] at hb
  obtain ⟨z1, _, _⟩ := btw_vl w1 w2 hb.1 hb.2
  have p1 : 1 / 2 ≤ vl sc := by
    have := mt (order_lt z1 v_half.1).2 h1
    rw [v_half.2] at this
    grind
  have p2 : vl sc ≤ 2 := by
    have := mt (order_gt z1 v_two.1).2 h2
    rw [v_two.2] at this
    grind
  have v0 : Fp.Fin 0 ∧ vl 0 = 0 := v_0
  exact ⟨⟨x1, x2, x3, y1, y2, by grind, v0.1, by rw [v0.2]; grind, by rw [v0.2]; grind⟩, z1, p1, p2⟩
/-- all that the walk is told of paper of one kind -/
structure ToldF (s : ByteArray) (n : Nat) (a f : Nat) (mid : Int) (sc : Nat) (lon lat : Int) (X Y : Nat) (lo la : Int) (al ac : Nat) (n1 n2 : Int) : Prop where
  too : ∀ w, Calls Tryd.prog 31 #[paperV a f s mid sc, placeW lon lat] w (ExR (.tuple #[flatV X Y, .nilIface]) w)
  frm : ∀ w, Calls Tryd.prog 32 #[paperV a f s mid sc, flatV X Y] w (ExR (.tuple #[placeW lo la, .nilIface]) w)
  str : ∀ w, Calls Tryd.prog 33 #[paperV a f s mid sc, placeW lon lat] w (ExR (.tuple #[.float .f64 al, .float .f64 ac, .nilIface]) w)
  ala : ∀ w, Calls Tryd.prog 16 #[.int .i64 la, .int .i64 lat] w (ExR (.int .i64 n1) w)
  alo : ∀ w, Calls Tryd.prog 16 #[.int .i64 lo, .int .i64 lon] w (ExR (.int .i64 n2) w)
  cos : ∀ w, Calls Tryd.prog 27 #[.int .i64 lat] w (ExR (.float .f64 (cosP lat)) w)
  n150 : n1 ≤ 50
  same : la = lo → lat = lon → n1 = n2
  most : n ≠ 2 → (D.order (floatOfInt .f64 n2) c50 == some .gt) = false
  mostP : n = 2 → ∀ r, can r = fdiv (can c50) (can (cosP lat)) → (D.order (floatOfInt .f64 n2) r == some .gt) = false
  shape : n ≠ 1 → ∀ r q, can r = fsub (can al) (can ac) → can q = fmul (can c12) (can ac) → ∀ w, Calls Tryd.prog 22 #[.float .f64 r, .float .f64 q] w (ExR (.bool true) w)
  area : n = 1 → ∀ r q, can r = fmul (can al) (can ac) → can q = fsub (can r) (can 4607182418800017408) → ∀ w, Calls Tryd.prog 22 #[.float .f64 q, .float .f64 c12] w (ExR (.bool true) w)
  up : n ≠ 2 → ∀ north : Int, 1000 ≤ north → lat + north ≤ 85000000000 → ∃ X' Y', (∀ w, Calls Tryd.prog 31 #[paperV a f s mid sc, placeW lon (lat + north)] w (ExR (.tuple #[flatV X' Y', .nilIface]) w)) ∧ D.order Y' Y = some .gt
theorem errOf_zero {A : Nat → Addr} {v : Value} (h : ErrOf A 0 v) : v = .nilIface := by
  generalize hk : (0 : Int) = k at h
  cases h
  · rfl
  all_goals exact absurd hk (by decide)
/-- place to paper, exactly -/
theorem to_exact {s : ByteArray} {n : Nat} (hK : KindIs s n) (mid lon : Int) {lat : Int} (hk : chkP (papP (okG a f) n sc) n lat = 0) (h3 : n ≠ 3) (fx : Fp.Fin (flatX n a f sc mid lon lat)) (fy : Fp.Fin (flatY n a f sc mid lon lat)) (w : World) :
    Calls Tryd.prog 31 #[paperV a f s mid sc, placeW lon lat] w (ExR (.tuple #[flatV (flatX n a f sc mid lon lat) (flatY n a f sc mid lon lat), .nilIface]) w) := by
  refine (to_ok0 (A := fun _ => ⟨0, 0, none⟩) hK a f mid sc lon lat w ⟨⟩ hk h3).mono ?_
  rintro e w' ⟨x, y, v, rfl, hv, hx, hy, hw⟩
  obtain rfl := errOf_zero hv
  obtain rfl := eq_of_can fx hx
  obtain rfl := eq_of_can fy hy
  exact ⟨rfl, hw⟩
theorem lat_someL (g : Int → Nat) (X : Nat) : ∃ r, LatOk g X r := lat_some g X _ _ _ (Nat.le_refl _)
theorem chk_ok {k : Int} {n : Nat} {lat : Int} (hk : k = 0) (l1 : -89000000000 ≤ lat) (l2 : lat ≤ 89000000000) (l3 : n = 2 → 0 ≤ lat) : chkP k n lat = 0 := by
  unfold chkP
  subst hk
  rw [if_neg (by omega), if_neg (by omega), if_neg (by intro h; have := l3 h.1; omega)]
set_option maxHeartbeats 2000000 in
theorem told_of {s : ByteArray} {n : Nat} (hK : KindIs s n) (h : Fit a f sc) (hp : papP (okG a f) n sc = 0) {mid lon lat : Int} (hg : Good n a f sc mid lon lat) (hn : n = 0 ∨ n = 1 ∨ n = 2) (l1 : -85000000000 ≤ lat) (l2 : lat ≤ 85000000000) (lp : n = 2 → 1000000000 ≤ lat)
    (hfrom : ∀ r, LatOk (fromG n a f sc) (fromY n a f sc (flatX n a f sc mid lon lat) (flatY n a f sc mid lon lat)) r → ∀ w, Calls Tryd.prog 32 #[paperV a f s mid sc, flatV (flatX n a f sc mid lon lat) (flatY n a f sc mid lon lat)] w
      (FromR (fun _ => ⟨0, 0, none⟩) 0 (fromLon n a sc (flatX n a f sc mid lon lat) (flatY n a f sc mid lon lat) mid) r w)) :
    ∃ X Y lo la al ac n1 n2, ToldF s n a f mid sc lon lat X Y lo la al ac n1 n2 := by
  have u1 : uu = 1 / 9007199254740992 := uu_eq
  obtain ⟨r, hr⟩ := lat_someL (fromG n a f sc) (fromY n a f sc (flatX n a f sc mid lon lat) (flatY n a f sc mid lon lat))
  obtain ⟨a1, a2⟩ := hg.bLat r hr
  obtain ⟨o1, o2⟩ := hg.bLon
  obtain ⟨T, s1, s2, s3, t1, t2⟩ := stretch_facts h n l1 l2 lp
  obtain ⟨fc, c1, c2⟩ := cos_85 l1 l2
  have hac := s1.fx
  have hal : Fp.Fin (alP n a f sc lat) := by
    by_cases h1 : n = 1
    · rw [s3 h1]; exact (area_ok s1 t1 t2).1
    · exact (s2 h1).fx
  have h3 : n ≠ 3 := by omega
  have hk : chkP (papP (okG a f) n sc) n lat = 0 := chk_ok hp (by omega) (by omega) (fun h2 => by have := lp h2; omega)
  have n2b : ∀ x : Int, -1 ≤ x → x ≤ 1 → 0 ≤ (if x < 0 then -x else x) ∧ (if x < 0 then -x else x) ≤ 1 := by intro x h1 h2; split <;> omega
  obtain ⟨m0, m1⟩ := n2b _ o1 o2
  generalize hN : (if apartP (fromLon n a sc (flatX n a f sc mid lon lat) (flatY n a f sc mid lon lat) mid) lon < 0 then -apartP (fromLon n a sc (flatX n a f sc mid lon lat) (flatY n a f sc mid lon lat) mid) lon else apartP (fromLon n a sc (flatX n a f sc mid lon lat) (flatY n a f sc mid lon lat) mid) lon) = n2 at *
  obtain ⟨fi, ei⟩ := vl_int n2 (by omega)
  have hi1 : vl (floatOfInt .f64 n2) ≤ 1 := by rw [ei]; exact castle (b := 1) m1
  refine ⟨flatX n a f sc mid lon lat, flatY n a f sc mid lon lat, fromLon n a sc (flatX n a f sc mid lon lat) (flatY n a f sc mid lon lat) mid, r, alP n a f sc lat, acP n a f sc lat, _, n2, ⟨?_, ?_, ?_, apart_c _ _, ?_, cosLat_c lat, ?_, ?_, ?_, ?_, ?_, ?_, ?_⟩⟩
  · exact to_exact hK mid lon hk h3 hg.fx hg.fy
  · intro w
    refine (hfrom r hr w).mono ?_
    rintro e w' ⟨v, rfl, hv, hw⟩
    obtain rfl := errOf_zero hv
    exact ⟨rfl, hw⟩
  · intro w
    refine (stretch_ok0 (A := fun _ => ⟨0, 0, none⟩) hK a f mid sc lon lat w ⟨⟩ hk h3).mono ?_
    rintro e w' ⟨x, y, v, rfl, hv, hx, hy, hw⟩
    obtain rfl := errOf_zero hv
    obtain rfl := eq_of_can hal hx
    obtain rfl := eq_of_can hac hy
    exact ⟨rfl, hw⟩
  · rw [← hN]; exact apart_c _ _
  · split <;> omega
  · intro e1 e2
    rw [← hN, e1, e2]
  · intro _
    refine beq_eq_false_iff_ne.2 ?_
    intro ho
    have := (order_gt fi v_50.1).1 ho
    rw [v_50.2] at this
    grind
  · intro _ q hq
    rw [v_50.1.can, fc.can] at hq
    have e : 50 / vl (cosP lat) * vl (cosP lat) = 50 := div_mul_c (ne_of_pos (show 0 < vl (cosP lat) by grind)) rfl
    have qlo : 49 ≤ 50 / vl (cosP lat) := by
      generalize 50 / vl (cosP lat) = Q at *
      generalize vl (cosP lat) = c at *
      refine le_of_scaled (R := c) (by grind) ?_
      grind
    have qhi : 50 / vl (cosP lat) ≤ 5000 := by
      generalize 50 / vl (cosP lat) = Q at *
      generalize vl (cosP lat) = c at *
      refine le_of_scaled (R := c) (by grind) ?_
      grind
    obtain ⟨fd, ed⟩ := divE v_50.1 fc (ne_of_pos (by grind)) 5000 (by rw [v_50.2]; exact ⟨by grind, qhi⟩) (by grind)
    rw [v_50.2] at ed
    obtain rfl := eq_of_can fd hq
    refine beq_eq_false_iff_ne.2 ?_
    intro ho
    have := (order_gt fi fd).1 ho
    have := ed.1
    rw [u1] at this
    grind
  · intro h1 x q hx hq w
    obtain ⟨f1, f2, g1, g2⟩ := shape_ok (s2 h1) s1 t1 t2
    rw [hal.can, hac.can] at hx
    rw [v_m12.1.can, hac.can] at hq
    obtain rfl := eq_of_can f1 hx
    obtain rfl := eq_of_can f2 hq
    refine (within_c _ _ w).mono ?_
    rw [g1, g2]
    exact fun _ _ h => h
  · intro h1 x q hx hq w
    obtain ⟨_, f2, g⟩ := area_ok s1 t1 t2
    rw [hal.can, hac.can, s3 h1] at hx
    rw [hx, v_one.1.can] at hq
    obtain rfl := eq_of_can f2 hq
    refine (within_c _ _ w).mono ?_
    obtain ⟨g1, g2⟩ := g
    rw [neg_m12, (fle_vl f2 v_m12.1).2 (by rw [v_m12.2]; grind), (fge_vl f2 v_m12'.1).2 (by rw [v_m12'.2]; grind)]
    exact fun _ _ h => h
  · intro h2 north b1 b2
    have hn' : n = 0 ∨ n = 1 := by omega
    have hg' : Good n a f sc mid lon (lat + north) := by
      rcases hn' with rfl | rfl
      · exact good_mer h mid lon (by omega) (by omega)
      · exact good_equ h mid lon (by omega) (by omega)
    exact ⟨_, _, to_exact hK mid lon (chk_ok hp (by omega) (by omega) (fun h => absurd h h2)) h3 hg'.fx hg'.fy, up_more h n hn' mid lon l1 b1 b2⟩
theorem told_mer (h : Fit a f sc) (hp : papP (okG a f) 0 sc = 0) (mid lon : Int) {lat : Int} (l1 : -85000000000 ≤ lat) (l2 : lat ≤ 85000000000) : ∃ X Y lo la al ac n1 n2, ToldF sMer 0 a f mid sc lon lat X Y lo la al ac n1 n2 := by
  have g := good_mer h mid lon l1 l2
  refine told_of .mer h hp g (.inl rfl) l1 l2 (fun h => absurd h (by decide)) (fun r hr w => ?_)
  refine from_mer0 a f mid sc _ _ r w ⟨⟩ hp g.bx g.bY ?_ ?_
  · rw [g.fx.can]; exact g.far (by decide)
  · rw [show fromG 0 a f sc = isoP f from if_neg (by decide)] at hr; exact hr
theorem told_equ (h : Fit a f sc) (hp : papP (okG a f) 1 sc = 0) (mid lon : Int) {lat : Int} (l1 : -85000000000 ≤ lat) (l2 : lat ≤ 85000000000) : ∃ X Y lo la al ac n1 n2, ToldF sEqu 1 a f mid sc lon lat X Y lo la al ac n1 n2 := by
  have g := good_equ h mid lon l1 l2
  refine told_of .equ h hp g (.inr (.inl rfl)) l1 l2 (fun h => absurd h (by decide)) (fun r hr w => ?_)
  refine from_equ0 a f mid sc _ _ r w ⟨⟩ hp g.bx g.bY ?_ ?_
  · rw [g.fx.can]; exact g.far (by decide)
  · rw [show fromG 1 a f sc = upP a f sc from if_pos rfl] at hr; exact hr
theorem told_pol (h : Fit a f sc) (hp : papP (okG a f) 2 sc = 0) (mid lon : Int) {lat : Int} (l1 : 1000000000 ≤ lat) (l2 : lat ≤ 85000000000) : ∃ X Y lo la al ac n1 n2, ToldF sPol 2 a f mid sc lon lat X Y lo la al ac n1 n2 := by
  have g := good_pol h mid lon l1 l2
  refine told_of .pol h hp g (.inr (.inr rfl)) (by omega) l2 (fun _ => l1) (fun r hr w => ?_)
  refine from_pol0 a f mid sc _ _ r w ⟨⟩ hp g.bx g.bY ?_
  rw [show fromG 2 a f sc = isoP f from if_neg (by decide)] at hr; exact hr
end Go.Proofs.YtddjppaccpioiaaDoor
