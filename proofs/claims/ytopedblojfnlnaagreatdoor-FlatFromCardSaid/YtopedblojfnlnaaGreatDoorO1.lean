/- Walks: of which place a point of paper is: the reference's, on the two other kinds of paper. -/
import Derived.Test.YtopedblojfnlnaaGreatDoorZ9
namespace Go.Proofs.YtopedblojfnlnaaGreatDoor
open Go.RowKit Go.Fp Go.Rel
set_option maxRecDepth 20000

set_option maxHeartbeats 8000000 in
theorem off_mer (a f : Nat) (mid : Int) (sc x y : Nat) (r : Int) (w : World) (hk : papP (okG a f) 0 sc = 0) (hx : btw x m1e8 c1e8 = true) (hy : btw y m1e8 c1e8 = true) (hf : farQ (eastQ a sc (can x)) = false) (hI : LatOk (isoP f) (fromY 0 a f sc x y) r) :
    Calls Tryz.prog 23 #[paperV a f sMer mid sc, flatV x y] w (ExR (.tuple #[placeW (fromLon 0 a sc x y mid) r, .int .i64 0]) w) := by
  have h := KindIs.mer
  have HPE := Lib.hid (fun (w : World) => paperError_c h a f mid sc w)
  rw [hk] at HPE
  have HBX := Lib.hid (between_c x m1e8 c1e8)
  have HBY := Lib.hid (between_c y m1e8 c1e8)
  rw [hx] at HBX
  rw [hy] at HBY
  have tk1 : Hid True := trivial
  obtain ⟨Y, hY⟩ : ∃ Y, Y = fromY 0 a f sc x y := ⟨_, rfl⟩
  rw [← hY] at hI
  have HL : Hid (∀ x', can x' = Y → ∀ w, Calls Tryz.prog 70 #[paperV a f sMer mid sc, .bool false, .float .f64 x'] w (ExR (.int .i64 r) w)) := Lib.hid (fun x' h w => latAt_iso a f _ mid sc x' r w (by rw [h]; exact hI))
  have HY := Lib.hid hY
  have HF := Lib.hid hf
  clear h hk hx hy hY hI hf
  have tk2 : Hid True := trivial
  have tk3 : Hid True := trivial
  go_enter Tryz.func23, Tryz.ntmps23
  go_wp2_with (first
    | (go_at_call 67; go_must (refine (HPE.out _).mono ?_; rintro e w1 ⟨rfl, hx⟩; obtain ⟨hb1, hb2, hb3, hw⟩ := ext3 hx; have c1 := hb1.cell; have c2 := hb2.cell; clear hx))
    | (go_at_call 43; clear tk1; go_must (refine (HBX.out _).mono ?_; rintro e w2 ⟨rfl, hx⟩; replace hw := hw.trans (bareN hx rfl rfl rfl rfl); replace hb3 := hb3.ext (bareN hx rfl rfl rfl rfl); replace hb2 := hb2.ext (bareN hx rfl rfl rfl rfl); replace hb1 := hb1.ext (bareN hx rfl rfl rfl rfl); clear c1 c2 hx; have c1 := hb1.cell; have c2 := hb2.cell))
    | (go_at_call 43; go_must (refine (HBY.out _).mono ?_; rintro e w2 ⟨rfl, hx⟩; replace hw := hw.trans (bareN hx rfl rfl rfl rfl); replace hb3 := hb3.ext (bareN hx rfl rfl rfl rfl); replace hb2 := hb2.ext (bareN hx rfl rfl rfl rfl); replace hb1 := hb1.ext (bareN hx rfl rfl rfl rfl); clear c1 c2 hx; have c1 := hb1.cell; have c2 := hb2.cell))
    | (go_at_call 52; go_must (refine (normOf_c _ _).mono ?_; rintro e w2 ⟨rfl, rfl⟩))
    | (clear tk2; with_reducible refine upon_fl rfl ?_; intro ra na hra)
    | (clear tk3; (with_reducible refine upon_fl rfl ?_); go_must (intro rx nx hrx; have hq : can rx = eastQ a sc (can x) := (by rw [hrx, hra]; rfl); obtain ⟨o5, o6⟩ := far_no hq HF.out; obtain ⟨N, hN⟩ : ∃ N, N = nearP (can rx) := ⟨_, rfl⟩; have W0 := hN.symm; have HLon : Hid (fromLon 0 a sc x y mid = signP (IntKind.i64.wrap (normP mid + N))) := (by show fromLon 0 a sc x y mid = _; rw [hN, hq]; rfl); obtain ⟨M, hM⟩ : ∃ M, M = IntKind.i64.wrap (normP mid + N) := ⟨_, rfl⟩; have W1 := hM.symm; rw [← hM] at HLon; clear hrx hq hN hM))
    | (go_at_call 44; go_must (refine (nearestTo_c _ _).mono ?_; rintro e w2 ⟨rfl, hx⟩; replace hw := hw.trans (bareN hx rfl rfl rfl rfl); replace hb3 := hb3.ext (bareN hx rfl rfl rfl rfl); replace hb2 := hb2.ext (bareN hx rfl rfl rfl rfl); replace hb1 := hb1.ext (bareN hx rfl rfl rfl rfl); clear c1 c2 hx; have c1 := hb1.cell; have c2 := hb2.cell))
    | (go_at_call 50; go_must (refine (signedAngle_c _ _).mono ?_; rintro e w2 ⟨rfl, hx⟩; replace hw := hw.trans (bareN hx rfl rfl rfl rfl); replace hb3 := hb3.ext (bareN hx rfl rfl rfl rfl); replace hb2 := hb2.ext (bareN hx rfl rfl rfl rfl); replace hb1 := hb1.ext (bareN hx rfl rfl rfl rfl); clear c1 c2 hx; have c1 := hb1.cell; have c2 := hb2.cell; have k1 : ∀ o i, (w2.alloc o).cell? ⟨w.heap.size, i, none⟩ = #[Value.float .f64 a, Value.float .f64 f, Value.string _, Value.int .i64 mid, Value.float .f64 sc][i]? := (fun o i => (hb1.ext ((Ext.refl w2).alloc o)).cell i); have k2 : ∀ o i, (w2.alloc o).cell? ⟨w.heap.size + 1, i, none⟩ = #[Value.float .f64 x, Value.float .f64 y][i]? := (fun o i => (hb2.ext ((Ext.refl w2).alloc o)).cell i)))
    | (go_at_call 70; go_must (refine (HL.out _ (by rw [HY.out]; simp [fromY, *, fbin]) _).mono ?_; rintro e w8 ⟨rfl, hx8⟩; have e1 : Ext (w2.alloc (.cells #[.int .i64 (signP M), .int .i64 0] 31)) w8 := bareN hx8 rfl rfl rfl rfl; have hbf := (Blk.new w2 #[.int .i64 (signP M), .int .i64 0] 31).ext e1; have hsz := hw.size; have hl3 := hb3.lt; replace hw := (hw.alloc (.cells #[.int .i64 (signP M), .int .i64 0] 31)).trans e1; replace hb3 := hb3.ext (((Ext.refl w2).alloc (.cells #[.int .i64 (signP M), .int .i64 0] 31)).trans e1); clear hb1 hb2 hx8 e1 c1 c2 k1 k2; generalize w2.heap.size = nb at *; have cf := hbf.cell; have ff := hbf.frozen))
    | (refine wpList_own rfl 31 _ _ rfl _ _ rfl rfl _ _ (hb3.same (fun n hn => setCell_other' _ _ _ _ _ hn) (Nat.ne_of_lt hl3)) (by kernel_rfl) rfl (by simp [Value.oneCell']) ?_; go_must (intro u bn en sn; replace hw := en w (Ext.setCell hw (by omega) _) (by omega); have kc := bn.cell; clear sn en hb3))
    | (with_reducible refine upon_fl rfl ?_; intro r0 n hr))
  refine bodyPost_ret (v := .tuple #[placeW (signP M) r, .int .i64 0]) (by simp [results, Tryz.results23, go_sem, kc]) rfl ⟨by rw [HLon.out], hw⟩
set_option maxHeartbeats 8000000 in
theorem off_equ (a f : Nat) (mid : Int) (sc x y : Nat) (r : Int) (w : World) (hk : papP (okG a f) 1 sc = 0) (hx : btw x m1e8 c1e8 = true) (hy : btw y m1e8 c1e8 = true) (hf : farQ (eastQ a sc (can x)) = false) (hI : LatOk (upP a f sc) (fromY 1 a f sc x y) r) :
    Calls Tryz.prog 23 #[paperV a f sEqu mid sc, flatV x y] w (ExR (.tuple #[placeW (fromLon 1 a sc x y mid) r, .int .i64 0]) w) := by
  have h := KindIs.equ
  have HPE := Lib.hid (fun (w : World) => paperError_c h a f mid sc w)
  rw [hk] at HPE
  have HBX := Lib.hid (between_c x m1e8 c1e8)
  have HBY := Lib.hid (between_c y m1e8 c1e8)
  rw [hx] at HBX
  rw [hy] at HBY
  have tk1 : Hid True := trivial
  obtain ⟨Y, hY⟩ : ∃ Y, Y = fromY 1 a f sc x y := ⟨_, rfl⟩
  rw [← hY] at hI
  have HL : Hid (∀ x', can x' = Y → ∀ w, Calls Tryz.prog 70 #[paperV a f sEqu mid sc, .bool true, .float .f64 x'] w (ExR (.int .i64 r) w)) := Lib.hid (fun x' h w => latAt_up a f _ mid sc x' r w (by rw [h]; exact hI))
  have HY := Lib.hid hY
  have HF := Lib.hid hf
  clear h hk hx hy hY hI hf
  have tk2 : Hid True := trivial
  have tk3 : Hid True := trivial
  go_enter Tryz.func23, Tryz.ntmps23
  go_wp2_with (first
    | (go_at_call 67; go_must (refine (HPE.out _).mono ?_; rintro e w1 ⟨rfl, hx⟩; obtain ⟨hb1, hb2, hb3, hw⟩ := ext3 hx; have c1 := hb1.cell; have c2 := hb2.cell; clear hx))
    | (go_at_call 43; clear tk1; go_must (refine (HBX.out _).mono ?_; rintro e w2 ⟨rfl, hx⟩; replace hw := hw.trans (bareN hx rfl rfl rfl rfl); replace hb3 := hb3.ext (bareN hx rfl rfl rfl rfl); replace hb2 := hb2.ext (bareN hx rfl rfl rfl rfl); replace hb1 := hb1.ext (bareN hx rfl rfl rfl rfl); clear c1 c2 hx; have c1 := hb1.cell; have c2 := hb2.cell))
    | (go_at_call 43; go_must (refine (HBY.out _).mono ?_; rintro e w2 ⟨rfl, hx⟩; replace hw := hw.trans (bareN hx rfl rfl rfl rfl); replace hb3 := hb3.ext (bareN hx rfl rfl rfl rfl); replace hb2 := hb2.ext (bareN hx rfl rfl rfl rfl); replace hb1 := hb1.ext (bareN hx rfl rfl rfl rfl); clear c1 c2 hx; have c1 := hb1.cell; have c2 := hb2.cell))
    | (go_at_call 52; go_must (refine (normOf_c _ _).mono ?_; rintro e w2 ⟨rfl, rfl⟩))
    | (clear tk2; with_reducible refine upon_fl rfl ?_; intro ra na hra)
    | (clear tk3; (with_reducible refine upon_fl rfl ?_); go_must (intro rx nx hrx; have hq : can rx = eastQ a sc (can x) := (by rw [hrx, hra]; rfl); obtain ⟨o5, o6⟩ := far_no hq HF.out; obtain ⟨N, hN⟩ : ∃ N, N = nearP (can rx) := ⟨_, rfl⟩; have W0 := hN.symm; have HLon : Hid (fromLon 1 a sc x y mid = signP (IntKind.i64.wrap (normP mid + N))) := (by show fromLon 1 a sc x y mid = _; rw [hN, hq]; rfl); obtain ⟨M, hM⟩ : ∃ M, M = IntKind.i64.wrap (normP mid + N) := ⟨_, rfl⟩; have W1 := hM.symm; rw [← hM] at HLon; clear hrx hq hN hM))
    | (go_at_call 44; go_must (refine (nearestTo_c _ _).mono ?_; rintro e w2 ⟨rfl, hx⟩; replace hw := hw.trans (bareN hx rfl rfl rfl rfl); replace hb3 := hb3.ext (bareN hx rfl rfl rfl rfl); replace hb2 := hb2.ext (bareN hx rfl rfl rfl rfl); replace hb1 := hb1.ext (bareN hx rfl rfl rfl rfl); clear c1 c2 hx; have c1 := hb1.cell; have c2 := hb2.cell))
    | (go_at_call 50; go_must (refine (signedAngle_c _ _).mono ?_; rintro e w2 ⟨rfl, hx⟩; replace hw := hw.trans (bareN hx rfl rfl rfl rfl); replace hb3 := hb3.ext (bareN hx rfl rfl rfl rfl); replace hb2 := hb2.ext (bareN hx rfl rfl rfl rfl); replace hb1 := hb1.ext (bareN hx rfl rfl rfl rfl); clear c1 c2 hx; have c1 := hb1.cell; have c2 := hb2.cell; have k1 : ∀ o i, (w2.alloc o).cell? ⟨w.heap.size, i, none⟩ = #[Value.float .f64 a, Value.float .f64 f, Value.string _, Value.int .i64 mid, Value.float .f64 sc][i]? := (fun o i => (hb1.ext ((Ext.refl w2).alloc o)).cell i); have k2 : ∀ o i, (w2.alloc o).cell? ⟨w.heap.size + 1, i, none⟩ = #[Value.float .f64 x, Value.float .f64 y][i]? := (fun o i => (hb2.ext ((Ext.refl w2).alloc o)).cell i)))
    | (go_at_call 70; go_must (refine (HL.out _ (by rw [HY.out]; simp [fromY, *, fbin]) _).mono ?_; rintro e w8 ⟨rfl, hx8⟩; have e1 : Ext (w2.alloc (.cells #[.int .i64 (signP M), .int .i64 0] 31)) w8 := bareN hx8 rfl rfl rfl rfl; have hbf := (Blk.new w2 #[.int .i64 (signP M), .int .i64 0] 31).ext e1; have hsz := hw.size; have hl3 := hb3.lt; replace hw := (hw.alloc (.cells #[.int .i64 (signP M), .int .i64 0] 31)).trans e1; replace hb3 := hb3.ext (((Ext.refl w2).alloc (.cells #[.int .i64 (signP M), .int .i64 0] 31)).trans e1); clear hb1 hb2 hx8 e1 c1 c2 k1 k2; generalize w2.heap.size = nb at *; have cf := hbf.cell; have ff := hbf.frozen))
    | (refine wpList_own rfl 31 _ _ rfl _ _ rfl rfl _ _ (hb3.same (fun n hn => setCell_other' _ _ _ _ _ hn) (Nat.ne_of_lt hl3)) (by kernel_rfl) rfl (by simp [Value.oneCell']) ?_; go_must (intro u bn en sn; replace hw := en w (Ext.setCell hw (by omega) _) (by omega); have kc := bn.cell; clear sn en hb3))
    | (with_reducible refine upon_fl rfl ?_; intro r0 n hr))
  refine bodyPost_ret (v := .tuple #[placeW (signP M) r, .int .i64 0]) (by simp [results, Tryz.results23, go_sem, kc]) rfl ⟨by rw [HLon.out], hw⟩
end Go.Proofs.YtopedblojfnlnaaGreatDoor
