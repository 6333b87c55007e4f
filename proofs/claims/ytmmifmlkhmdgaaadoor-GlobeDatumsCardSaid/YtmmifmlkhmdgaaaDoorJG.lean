/- Walks: whether numbers lie within what is told; a datum's checks. -/
import Derived.Test.YtmmifmlkhmdgaaaDoorJF
import Derived.Test.YtmmifmlkhmdgaaaDoorZG
import Derived.Test.YtmmifmlkhmdgaaaDoorZD
namespace Go.Proofs.YtmmifmlkhmdgaaaDoor
open Go.RowKit Go.Fp Go.Rel
set_option maxRecDepth 20000

abbrev tFl : TypeId := 22
/-- within, either side: the other side is the opposite -/
def allIn (c m : Nat) (l : List Nat) : Bool := l.all fun x => inn x c m
theorem allIn_take {c m : Nat} {l : List Nat} {k : Nat} (hk : k < l.length) (h : allIn c m (l.take k) = true) : allIn c m (l.take (k + 1)) = inn (l.getD k 0) c m := by
  unfold allIn at *
  rw [List.take_add_one, List.all_append, h]
  simp [List.getD, hk]
theorem allIn_false {c m : Nat} {l : List Nat} {k : Nat} (hk : k < l.length) (h : inn (l.getD k 0) c m = false) : allIn c m l = false := by
  unfold allIn
  rw [List.all_eq_false]
  refine ⟨l.getD k 0, ?_, by rw [h]; decide⟩
  simp [List.getD, hk]
set_option maxHeartbeats 4000000 in
theorem gwithin_c (c m : Nat) (l : List Nat) (b cap : Nat) (w : World) (hn : l.length < 1000) (hm : Op.negFloat .f64 c = m) (hb : Blk w b tFl (fls l)) :
    Calls Tryd.prog 64 #[.float .f64 c, .slice (some ⟨b, 0, none⟩) l.length cap] w (ExR (.bool (allIn c m l)) w) := by
  obtain ⟨L, hL⟩ : ∃ L, L = l.length := ⟨_, rfl⟩
  rw [← hL]
  have HL := Lib.hid hL
  have hn' : L < 1000 := by omega
  clear hL hn
  go_enter Tryd.func64, Tryd.ntmps64
  go_wp2_with fail
  go_loopw [9] (fun iv wr => ∃ k : Nat, iv = .int .i64 k ∧ k ≤ L ∧ allIn c m (l.take k) = true ∧ Ext w wr) (fun iv _ => L - (RowKit.intOf iv).toNat)
  case atStart => exact ⟨0, rfl, by omega, by simp [allIn], Ext.refl _⟩
  case round =>
    obtain ⟨k, rfl, hk, ha, hw⟩ := hrel
    have HA := Lib.hid ha
    clear ha
    by_cases hlt : k < L
    · have hc : wr.cell? ⟨b, k, none⟩ = some (.float .f64 (l.getD k 0)) := by
        rw [(hb.ext hw).cell k, fls_get l k (by have := HL.out; omega)]
      have hT := allIn_take (c := c) (m := m) (by have := HL.out; omega) HA.out
      have hF : inn (l.getD k 0) c m = false → allIn c m l = false := allIn_false (by have := HL.out; omega)
      generalize l.getD k 0 = x at *
      have WA : IntKind.i64.wrap ((k : Int) + 1) = (k : Int) + 1 := IntWalk.i64_in _ ⟨by omega, by omega⟩
      cases hi : inn x c m with
      | true =>
        have HT := Lib.hid (hT.trans hi)
        have hi' := hi
        unfold inn at hi'
        rw [Bool.and_eq_true] at hi'
        obtain ⟨g1, g2⟩ := hi'
        have G1 : (FloatKind.f64.format.order x m == some .gt || FloatKind.f64.format.order x m == some .eq) = true := g1
        have G2 : (FloatKind.f64.format.order x c == some .lt || FloatKind.f64.format.order x c == some .eq) = true := g2
        clear hT hF hi g1 g2
        go_wp2_with fail
        exact ⟨⟨k + 1, by simp, by omega, HT.out, hw⟩, by simp [RowKit.intOf]; omega⟩
      | false =>
        have HF := Lib.hid (hF hi)
        have hi' := hi
        unfold inn at hi'
        have HI := Lib.hid hi'
        clear hT hF hi hi'
        go_wp2_with fail
        all_goals (first | (go_ret; exact ⟨by rw [HF.out]; rfl, hw⟩) | (exfalso; have h := HI.out; have hD : FloatKind.f64.format = D := rfl; simp only [hD] at *; simp_all [fge, fle]; done) | trace_state)
    · have hkL : k = L := by omega
      subst hkL
      have HA2 : Hid (allIn c m l = true) := Lib.hid (by have := HA.out; rw [HL.out, List.take_length] at this; exact this)
      clear HA
      go_wp2_with fail
      go_ret
      exact ⟨by rw [HA2.out]; rfl, hw⟩
abbrev datV (X Y Z A B C S : Nat) : Value := .agg #[.float .f64 X, .float .f64 Y, .float .f64 Z, .float .f64 A, .float .f64 B, .float .f64 C, .float .f64 S]
abbrev vecU (x y z : Nat) : Value := .agg #[.float .f64 x, .float .f64 y, .float .f64 z]
theorem neg_1e5 : Op.negFloat .f64 c1e5 = m1e5 := by decide +kernel
theorem neg_1m3 : Op.negFloat .f64 c1m3 = m1m3 := by decide +kernel
theorem neg_1e3 : Op.negFloat .f64 c1e3 = m1e3 := by decide +kernel
theorem neg_1e10 : Op.negFloat .f64 c1e10 = m1e10 := by decide +kernel
theorem neg_1e8 : Op.negFloat .f64 c1e8 = m1e8 := by decide +kernel
theorem neg_1m5 : Op.negFloat .f64 c1m5 = m1m5 := by decide +kernel
theorem okD_all (X Y Z A B C S : Nat) : okD X Y Z A B C S = (allIn c1e5 m1e5 [X, Y, Z] && allIn c1m3 m1m3 [A, B, C] && allIn c1e3 m1e3 [S]) := by
  simp only [okD, allIn, List.all_cons, List.all_nil, Bool.and_true]
  ac_rfl
theorem okV_all (x y z : Nat) : okV x y z = allIn c1e10 m1e10 [x, y, z] := by
  simp only [okV, allIn, List.all_cons, List.all_nil, Bool.and_true]
  ac_rfl
theorem gw3 (c m x y z : Nat) (hm : Op.negFloat .f64 c = m) (b cap : Nat) (w : World) (hb : Blk w b tFl #[.float .f64 x, .float .f64 y, .float .f64 z]) : Calls Tryd.prog 64 #[.float .f64 c, .slice (some ⟨b, 0, none⟩) 3 cap] w (ExR (.bool (allIn c m [x, y, z])) w) :=
  gwithin_c c m [x, y, z] b cap w (by simp) hm hb
theorem gw1 (c m x : Nat) (hm : Op.negFloat .f64 c = m) (b cap : Nat) (w : World) (hb : Blk w b tFl #[.float .f64 x]) : Calls Tryd.prog 64 #[.float .f64 c, .slice (some ⟨b, 0, none⟩) 1 cap] w (ExR (.bool (allIn c m [x])) w) :=
  gwithin_c c m [x] b cap w (by simp) hm hb
def dK (g : Bool) : Int := if g then 0 else 3
set_option maxHeartbeats 8000000 in
theorem dvalid_c {A0 : Nat → Addr} (X Y Z A B C S : Nat) (w : World) (h8 : World8 A0 w) : Calls Tryd.prog 19 #[datV X Y Z A B C S] w (fun e w' => ∃ v, e = .returned v ∧ ErrOf A0 (dK (okD X Y Z A B C S)) v ∧ Ext w w') := by
  rw [okD_all]
  have G1 := fun b cap w hb => gw3 c1e5 m1e5 X Y Z neg_1e5 b cap w hb
  have G2 := fun b cap w hb => gw3 c1m3 m1m3 A B C neg_1m3 b cap w hb
  have G3 := fun b cap w hb => gw1 c1e3 m1e3 S neg_1e3 b cap w hb
  generalize allIn c1e5 m1e5 [X, Y, Z] = p1 at *
  generalize allIn c1m3 m1m3 [A, B, C] = p2 at *
  generalize allIn c1e3 m1e3 [S] = p3 at *
  have H8 := Lib.hid h8
  clear h8
  have tkA : Hid True := trivial
  have F1 := Lib.hid G1
  have F2 := Lib.hid G2
  have F3 := Lib.hid G3
  clear G1 G2 G3
  cases p1 <;> cases p2 <;> cases p3
  all_goals
    go_enter Tryd.func19, Tryd.ntmps19
    go_wp2_with (first
      | (go_at_call 64; clear tkA; go_must (refine (F1.out (w.heap.size + 1) 3 _ (ext2 (Ext.refl ((w.alloc (.cells #[.float .f64 X, .float .f64 Y, .float .f64 Z, .float .f64 A, .float .f64 B, .float .f64 C, .float .f64 S] 44)).alloc (.cells #[.float .f64 X, .float .f64 Y, .float .f64 Z] tFl)))).2.1).mono ?_; rintro e w1 ⟨rfl, hx⟩; obtain ⟨hb1, _, hw⟩ := ext2 hx; clear hx; have kg := (H8.out.ext hw).errs.cell 1 (by decide); have c1 := hb1.cell))
      | (go_at_call 64; go_must ((first | (with_reducible refine (F2.out _ _ _ (Blk.new _ _ _)).mono ?_) | (with_reducible refine (F3.out _ _ _ (Blk.new _ _ _)).mono ?_)); rintro e w2 ⟨rfl, hx⟩; replace hb1 := hb1.ext (((Ext.refl _).alloc _).trans hx); replace hw := hw.trans (((Ext.refl _).alloc _).trans hx); clear hx kg c1; have kg := (H8.out.ext hw).errs.cell 1 (by decide); have c1 := hb1.cell)))
    go_ret
    first
      | exact ⟨_, rfl, .nil, hw⟩
      | exact ⟨_, rfl, .shape, hw⟩
end Go.Proofs.YtmmifmlkhmdgaaaDoor
