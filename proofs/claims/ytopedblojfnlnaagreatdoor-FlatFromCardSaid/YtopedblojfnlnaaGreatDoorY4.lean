/- Walks: where a place is on paper: package flat's and the reference's. -/
import Derived.Test.YtopedblojfnlnaaGreatDoorY3
namespace Go.Proofs.YtopedblojfnlnaaGreatDoor
open Go.RowKit Go.Fp Go.Rel
set_option maxRecDepth 20000

abbrev flatV (x y : Nat) : Value := .agg #[.float .f64 x, .float .f64 y]
def offN (mid lon : Int) : Int := normP lon - normP mid
theorem offN_wrap (mid lon : Int) : IntKind.i64.wrap (normP lon - normP mid) = offN mid lon := IntWalk.i64_in _ ⟨by have := normP_lo lon; have := normP_hi mid; omega, by have := normP_hi lon; have := normP_lo mid; omega⟩
def flatX (n a f sc : Nat) (mid lon lat : Int) : Nat := if n = 2 then fmul (downP a f sc lat) (can (sinP (offN mid lon))) else fmul (fmul (can a) (can sc)) (fmul (can (floatOfInt .f64 (signP (offN mid lon)))) (can 4445950764994258515))
def flatY (n a f sc : Nat) (mid lon lat : Int) : Nat := if n = 2 then negC (fmul (downP a f sc lat) (can (cosP (offN mid lon)))) else if n = 1 then upP a f sc lat else fmul (fmul (can a) (can sc)) (isoP f lat)
def SpNorm (f : Int → Int) (args : Array Value) (v : Value) : Prop := ∃ a : Int, args = #[.int .i64 a] ∧ v = .int .i64 (f a)
theorem spNorm_iff (f : Int → Int) (a : Int) (v : Value) : SpNorm f #[.int .i64 a] v ↔ v = .int .i64 (f a) := by
  unfold SpNorm
  exact ⟨fun ⟨_, h, k⟩ => by simp at h; obtain rfl := h; exact k, fun h => ⟨_, rfl, h⟩⟩
theorem same_call {P : Program} {f : FuncId} {args : Array Value} {v : Value} {W : World} (h : Calls P f args W (fun e w' => e = .returned v ∧ W = w')) : Calls P f args W (fun e w' => ∃ u, e = .returned u ∧ u = v ∧ Ext W w') :=
  h.mono fun _ _ ⟨he, hx⟩ => ⟨_, he, rfl, hx ▸ Ext.refl _⟩

def FlatR (A : Nat → Addr) (k : Int) (X Y : Nat) (w : World) (e : Ending) (w' : World) : Prop := ∃ x y v, e = .returned (.tuple #[flatV x y, v]) ∧ ErrOf A k v ∧ can x = X ∧ can y = Y ∧ Ext w w'
def FlatQ (X Y : Nat) (w : World) (e : Ending) (w' : World) : Prop := ∃ x y, e = .returned (flatV x y) ∧ can x = X ∧ can y = Y ∧ Ext w w'

theorem setCell_other' (w : World) (n i k : Nat) (v : Value) (h : k ≠ n) : (w.setCell ⟨n, i, none⟩ v).heap[k]? = w.heap[k]? := Below.heap_setCell _ _ _ _ h
def FT (g : FuncId) (args : Array Value) (v : Value) : Prop := FU g args v ∨ (g = 40 ∧ SpNorm normP args v) ∨ (g = 52 ∧ SpNorm normP args v) ∨ (g = 39 ∧ SpNorm signP args v) ∨ (g = 50 ∧ SpNorm signP args v)
set_option maxHeartbeats 8000000 in
theorem to_bad {A : Nat → Addr} {s : ByteArray} {n : Nat} (h : KindIs s n) (a f : Nat) (mid : Int) (sc : Nat) (lon lat : Int) (w : World) (h8 : World8 A w) (hk : 0 < chkP (papP (okG a f) n sc) n lat) :
    Calls Tryz.prog 60 #[paperV a f s mid sc, placeW lon lat] w (FlatR A (chkP (papP (okG a f) n sc) n lat) 0 0 w) := by
  have HC0 : ∀ w, World8 A w → Calls Tryz.prog 91 #[paperV a f s mid sc, placeW lon lat] w fun e w' => ∃ p, e = .returned (errV p) ∧ ErrOf A (chkP (papP (okG a f) n sc) n lat) (errV p) ∧ Ext w w' := by
    intro w h8
    refine (pcheck_c h a f mid sc lon lat w h8).mono ?_
    rintro e w' ⟨v, rfl, hv, hx⟩
    generalize chkP (papP (okG a f) n sc) n lat = k at *
    cases hv
    case nil => exact absurd hk (by decide)
    all_goals exact ⟨_, rfl, by constructor, hx⟩
  generalize chkP (papP (okG a f) n sc) n lat = k at *
  have HC := Lib.hid HC0
  clear HC0 hk
  go_enter Tryz.func60, Tryz.ntmps60
  go_wp2_with (first
    | (go_at_call 91; go_must (refine (HC.out _ (h8.ext (by repeat (first | exact Ext.refl _ | refine Ext.alloc ?_ _)))).mono ?_; rintro e w1 ⟨p, rfl, hv, hx⟩; obtain ⟨hb1, hb2, hb3, hw⟩ := ext3 hx; clear hx hb1 hb2))
    | (refine wpList_own rfl 28 _ _ rfl _ _ rfl rfl _ _ hb3 (by kernel_rfl) rfl (by simp [Value.oneCell']) ?_; go_must (intro u bn en sn; replace hw := en _ hw (by omega); have kc := bn.cell; clear sn en hb3)))
  exact bodyPost_ret (v := .tuple #[flatV 0 0, errV p]) (by simp [results, Tryz.results60, go_sem, kc]) rfl ⟨_, _, _, rfl, hv, can0, can0, hw⟩
set_option maxHeartbeats 8000000 in
theorem to_ok {A : Nat → Addr} {s : ByteArray} {n : Nat} (h : KindIs s n) (a f : Nat) (mid : Int) (sc : Nat) (lon lat : Int) (w : World) (h8 : World8 A w) (hk : chkP (papP (okG a f) n sc) n lat = 0) (h3 : n ≠ 3) :
    Calls Tryz.prog 60 #[paperV a f s mid sc, placeW lon lat] w (FlatR A 0 (flatX n a f sc mid lon lat) (flatY n a f sc mid lon lat) w) := by
  have HC0 : ∀ w, World8 A w → Calls Tryz.prog 91 #[paperV a f s mid sc, placeW lon lat] w (ExR .nilIface w) := by
    intro w h8
    refine (pcheck_c h a f mid sc lon lat w h8).mono ?_
    rw [hk]
    rintro e w' ⟨v, rfl, hv, hx⟩
    cases hv
    exact ⟨rfl, hx⟩
  have HC := Lib.hid HC0
  clear HC0 hk
  have W1 := offN_wrap mid lon
  obtain ⟨X, hX⟩ : ∃ X, X = flatX n a f sc mid lon lat := ⟨_, rfl⟩
  obtain ⟨Y, hY⟩ : ∃ Y, Y = flatY n a f sc mid lon lat := ⟨_, rfl⟩
  rw [← hX, ← hY]
  have HX := Lib.hid hX
  have HY := Lib.hid hY
  clear hX hY
  have N1 := normP_lo lon
  have N2 := normP_hi lon
  have N3 := normP_lo mid
  have N4 := normP_hi mid
  cases h
  case not => exact absurd rfl h3
  all_goals
    clear h3
    go_enter Tryz.func60, Tryz.ntmps60
    go_wp2_with (first
      | (go_at_call 91; go_must (refine (HC.out _ (h8.ext (by repeat (first | exact Ext.refl _ | refine Ext.alloc ?_ _)))).mono ?_; rintro e w1 ⟨rfl, hx⟩; obtain ⟨hb1, hb2, hb3, hw⟩ := ext3 hx; have c1 := hb1.cell; have c2 := hb2.cell; clear hx)))
    clear c1 c2
    refine wp_region_all FT (by kernel_rfl) (by kernel_rfl) ?_
    repeat (first
      | (refine wpR_op rfl (fun w9 hw9 K hK => ?_); have k1 := (hb1.ext (bareN hw9 rfl rfl rfl rfl)).cell; have k2 := (hb2.ext (bareN hw9 rfl rfl rfl rfl)).cell; go_simp; refine hK _ ?_; clear hK K k1 k2 hw9 w9)
      | (refine wpR_op rfl (fun w9 hw9 K hK => ?_); go_simp; refine rel_call (same_call (norm_c _ _)) (fun v => ?_) (fun v hv => ?_); (simp [FT, FU, spNorm_iff]); subst hv; refine hK _ ?_; clear hK K hw9 w9))
    refine wpR_nil ?_
    intro w8 hx8 _
    replace hw := hw.trans (bareN hx8 rfl rfl rfl rfl)
    replace hb3 := hb3.ext (bareN hx8 rfl rfl rfl rfl)
    replace hb2 := hb2.ext (bareN hx8 rfl rfl rfl rfl)
    replace hb1 := hb1.ext (bareN hx8 rfl rfl rfl rfl)
    clear hx8
    have c1 := hb1.cell
    have c2 := hb2.cell
    have W1 := offN_wrap mid lon
    go_wp2_with (first
      | (refine wpList_own rfl 28 _ _ rfl _ _ rfl rfl _ _ hb3 (by kernel_rfl) rfl (by simp [Value.oneCell']) ?_; go_must (intro u bn en sn; replace hw := en w (by repeat (first | exact hw | refine Ext.drewN ?_ _)) (by omega); have kc := bn.cell; clear sn en hb3))
      | (go_at_call 92; go_must (refine (down_c a f _ mid sc lat _).mono ?_; rintro e w2 ⟨d1, rfl, hd1, hx⟩; replace hw := hw.trans (bareN hx rfl rfl rfl rfl); replace hb3 := hb3.ext (bareN hx rfl rfl rfl rfl); replace hb2 := hb2.ext (bareN hx rfl rfl rfl rfl); replace hb1 := hb1.ext (bareN hx rfl rfl rfl rfl); clear c1 c2 hx; have c1 := hb1.cell; have c2 := hb2.cell))
      | (refine wpList_own rfl 28 _ _ rfl _ _ rfl rfl _ _ (hb3.same (fun n hn => setCell_other' _ _ _ _ _ hn) (Nat.ne_of_lt hl3)) (by kernel_rfl) rfl (by simp [Value.oneCell']) ?_; go_must (intro u bn en sn; replace hw := en w (Ext.setCell hw (by omega) _) (by omega); have kc := bn.cell; clear sn en hb3))
      | (go_at_call 64; go_must (refine (paperA_c a f _ mid sc _).mono ?_; rintro e w2 ⟨a1, rfl, ha1, hx⟩; replace hw := hw.trans (bareN hx rfl rfl rfl rfl); replace hb3 := hb3.ext (bareN hx rfl rfl rfl rfl); replace hb2 := hb2.ext (bareN hx rfl rfl rfl rfl); replace hb1 := hb1.ext (bareN hx rfl rfl rfl rfl); clear c1 c2 hx; (try clear k1 k2); have c1 := hb1.cell; have c2 := hb2.cell; have k1 : ∀ o i, (w2.alloc o).cell? ⟨w.heap.size, i, none⟩ = #[Value.float .f64 a, Value.float .f64 f, Value.string _, Value.int .i64 mid, Value.float .f64 sc][i]? := (fun o i => (hb1.ext ((Ext.refl w2).alloc o)).cell i); have k2 : ∀ o i, (w2.alloc o).cell? ⟨w.heap.size + 1, i, none⟩ = #[Value.int .i64 lon, Value.int .i64 lat][i]? := (fun o i => (hb2.ext ((Ext.refl w2).alloc o)).cell i)))
      | (go_at_call 66; go_must (refine (up_c a f _ mid sc lat _).mono ?_; rintro e w3 ⟨u1, rfl, hu1, hx⟩; obtain ⟨hbf, hx'⟩ := ext1 (show Ext (w2.alloc _) w3 from bareN hx rfl rfl rfl rfl); have hsz := hw.size; have hl3 := hb3.lt; replace hw := hw.trans hx'; replace hb3 := hb3.ext hx'; clear c1 c2 k1 k2 hx hx' hb1 hb2; generalize w2.heap.size = nb at *; have cf := hbf.cell; have ff := hbf.frozen))
      | (go_at_call 25; go_must (refine (iso_c a f lat _).mono ?_; rintro e w2 ⟨i1, rfl, hi1, hx⟩; replace hw := hw.trans (bareN hx rfl rfl rfl rfl); replace hb3 := hb3.ext (bareN hx rfl rfl rfl rfl); replace hb2 := hb2.ext (bareN hx rfl rfl rfl rfl); replace hb1 := hb1.ext (bareN hx rfl rfl rfl rfl); clear c1 c2 hx; (try clear k1 k2); have c1 := hb1.cell; have c2 := hb2.cell; have k1 : ∀ o i, (w2.alloc o).cell? ⟨w.heap.size, i, none⟩ = #[Value.float .f64 a, Value.float .f64 f, Value.string _, Value.int .i64 mid, Value.float .f64 sc][i]? := (fun o i => (hb1.ext ((Ext.refl w2).alloc o)).cell i); have k2 : ∀ o i, (w2.alloc o).cell? ⟨w.heap.size + 1, i, none⟩ = #[Value.int .i64 lon, Value.int .i64 lat][i]? := (fun o i => (hb2.ext ((Ext.refl w2).alloc o)).cell i)))
      | (go_at_call 37; go_must (refine (sin_c _ _).mono ?_; rintro e w2 ⟨rfl, hx⟩; replace hw := hw.trans (bareN hx rfl rfl rfl rfl); replace hb3 := hb3.ext (bareN hx rfl rfl rfl rfl); replace hb2 := hb2.ext (bareN hx rfl rfl rfl rfl); replace hb1 := hb1.ext (bareN hx rfl rfl rfl rfl); clear c1 c2 hx; (try clear k1 k2); have c1 := hb1.cell; have c2 := hb2.cell; have k1 : ∀ o i, (w2.alloc o).cell? ⟨w.heap.size, i, none⟩ = #[Value.float .f64 a, Value.float .f64 f, Value.string _, Value.int .i64 mid, Value.float .f64 sc][i]? := (fun o i => (hb1.ext ((Ext.refl w2).alloc o)).cell i); have k2 : ∀ o i, (w2.alloc o).cell? ⟨w.heap.size + 1, i, none⟩ = #[Value.int .i64 lon, Value.int .i64 lat][i]? := (fun o i => (hb2.ext ((Ext.refl w2).alloc o)).cell i)))
      | (go_at_call 35; go_must (refine (cos_c _ _).mono ?_; rintro e w2 ⟨rfl, hx⟩; replace hw := hw.trans (bareN hx rfl rfl rfl rfl); replace hb3 := hb3.ext (bareN hx rfl rfl rfl rfl); replace hb2 := hb2.ext (bareN hx rfl rfl rfl rfl); replace hb1 := hb1.ext (bareN hx rfl rfl rfl rfl); clear c1 c2 hx; (try clear k1 k2); have c1 := hb1.cell; have c2 := hb2.cell; have k1 : ∀ o i, (w2.alloc o).cell? ⟨w.heap.size, i, none⟩ = #[Value.float .f64 a, Value.float .f64 f, Value.string _, Value.int .i64 mid, Value.float .f64 sc][i]? := (fun o i => (hb1.ext ((Ext.refl w2).alloc o)).cell i); have k2 : ∀ o i, (w2.alloc o).cell? ⟨w.heap.size + 1, i, none⟩ = #[Value.int .i64 lon, Value.int .i64 lat][i]? := (fun o i => (hb2.ext ((Ext.refl w2).alloc o)).cell i)))
      | (go_at_call 39; go_must (refine (signed_c _ _).mono ?_; rintro e w2 ⟨rfl, hx⟩; replace hw := hw.trans (bareN hx rfl rfl rfl rfl); replace hb3 := hb3.ext (bareN hx rfl rfl rfl rfl); replace hb2 := hb2.ext (bareN hx rfl rfl rfl rfl); replace hb1 := hb1.ext (bareN hx rfl rfl rfl rfl); clear c1 c2 hx; (try clear k1 k2); have c1 := hb1.cell; have c2 := hb2.cell; have k1 : ∀ o i, (w2.alloc o).cell? ⟨w.heap.size, i, none⟩ = #[Value.float .f64 a, Value.float .f64 f, Value.string _, Value.int .i64 mid, Value.float .f64 sc][i]? := (fun o i => (hb1.ext ((Ext.refl w2).alloc o)).cell i); have k2 : ∀ o i, (w2.alloc o).cell? ⟨w.heap.size + 1, i, none⟩ = #[Value.int .i64 lon, Value.int .i64 lat][i]? := (fun o i => (hb2.ext ((Ext.refl w2).alloc o)).cell i)))
      | (with_reducible refine upon_fl rfl ?_; intro r n hr))
  · have hbf : Blk (w2.alloc (.cells #[.float .f64 r, .float .f64 0] 28)) w2.heap.size 28 #[.float .f64 r, .float .f64 0] := Blk.new _ _ _
    have hwf : Ext w (w2.alloc (.cells #[.float .f64 r, .float .f64 0] 28)) := hw.alloc _
    have hsz := hw.size
    have hl3 := hb3.lt
    replace hb1 := hb1.ext ((Ext.refl w2).alloc (.cells #[.float .f64 r, .float .f64 0] 28))
    replace hb2 := hb2.ext ((Ext.refl w2).alloc (.cells #[.float .f64 r, .float .f64 0] 28))
    replace hb3 := hb3.ext ((Ext.refl w2).alloc (.cells #[.float .f64 r, .float .f64 0] 28))
    clear c1 c2 k1 k2
    refine wp_region_head 9 FT (by kernel_rfl) (by kernel_rfl) ?_
    simp only [List.take_succ_cons, List.take_zero, List.drop_succ_cons, List.drop_zero]
    repeat (first
      | (refine wpR_op rfl (fun w9 hw9 K hK => ?_); have k1 := (hb1.ext (bareN hw9 rfl rfl rfl rfl)).cell; have k2 := (hb2.ext (bareN hw9 rfl rfl rfl rfl)).cell; go_simp; refine hK _ ?_; clear hK K k1 k2 hw9 w9)
      | (refine wpR_op rfl (fun w9 hw9 K hK => ?_); go_simp; refine rel_call (FlR.call (paperA_c a f _ mid sc _)) (fun v => ?_) (fun v hv => ?_); (simp [FT, FU, spPap_iff]); obtain ⟨ra, rfl, hra⟩ := hv; refine hK _ ?_; clear hK K hw9 w9)
      | (refine wpR_op rfl (fun w9 hw9 K hK => ?_); go_simp; refine rel_call (FlR.call (iso_c a f lat _)) (fun v => ?_) (fun v hv => ?_); (simp [FT, FU, spGlI_iff]); obtain ⟨ri, rfl, hri⟩ := hv; refine hK _ ?_; clear hK K hw9 w9)
      | (refine wpR_op rfl (fun w9 hw9 K hK => ?_); go_simp; refine rel_fl rfl ?_; intro rx hrx; refine hK _ ?_; clear hK K hw9 w9))
    refine wpR_nil ?_
    intro w8 hx8 _
    replace hw := hwf.trans (bareN hx8 rfl rfl rfl rfl)
    replace hbf := hbf.ext (bareN hx8 rfl rfl rfl rfl)
    replace hb3 := hb3.ext (bareN hx8 rfl rfl rfl rfl)
    clear hb1 hb2 hx8 hwf
    generalize w2.heap.size = nb at *
    have cf := hbf.cell
    have ff := hbf.frozen
    go_wp2_with (first
      | (refine wpList_own rfl 28 _ _ rfl _ _ rfl rfl _ _ (hb3.same (fun n hn => setCell_other' _ _ _ _ _ hn) (Nat.ne_of_lt hl3)) (by kernel_rfl) rfl (by simp [Value.oneCell']) ?_; go_must (intro u bn en sn; replace hw := en w (Ext.setCell hw (by omega) _) (by omega); have kc := bn.cell; clear sn en hb3)))
    refine bodyPost_ret (v := .tuple #[flatV r rx, .nilIface]) (by simp [results, Tryz.results60, go_sem, kc]) rfl ⟨_, _, _, rfl, .nil, ?_, ?_, hw⟩
    · rw [HX.out]; simp [flatX, *, fbin, neg_can]
    · rw [HY.out]; simp [flatY, *, fbin, neg_can]
  · refine bodyPost_ret (v := .tuple #[flatV r u1, .nilIface]) (by simp [results, Tryz.results60, go_sem, kc]) rfl ⟨_, _, _, rfl, .nil, ?_, ?_, hw⟩
    · rw [HX.out]; simp [flatX, *, fbin, neg_can]
    · rw [HY.out]; simp [flatY, *, fbin, neg_can]
  · refine bodyPost_ret (v := .tuple #[flatV _ _, .nilIface]) (by simp [results, Tryz.results60, go_sem, kc]; exact ⟨rfl, rfl⟩) rfl ⟨_, _, _, rfl, .nil, ?_, ?_, hw⟩
    · rw [HX.out]; simp [flatX, *, fbin, neg_can]
    · rw [HY.out]; simp [flatY, *, fbin, neg_can]
end Go.Proofs.YtopedblojfnlnaaGreatDoor
