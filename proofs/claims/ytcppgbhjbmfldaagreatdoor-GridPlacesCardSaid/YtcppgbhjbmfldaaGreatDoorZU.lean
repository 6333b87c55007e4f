/- Opening a reference (from DK, for a seat without texts of numbers). -/
import Derived.Test.YtcppgbhjbmfldaaGreatDoorZT
import Derived.Deep.Strs
namespace Go.Proofs.YtcppgbhjbmfldaaGreatDoor
open Go.ChangeShapes Go.WideShapes Go.ChangeAt Go.RowKit Go.Joins Go.Rel
set_option maxRecDepth 20000

theorem cellsBool : Tryz.prog.cellsOf 4 = 1 := by kernel_rfl
theorem cellsRef : Tryz.prog.cellsOf 25 = 4 := by kernel_rfl
section
variable {H : Type} {enc : TypeId × Value → H} {w : World} {base : Nat} {sp : Nat → Bool} {held : Bool}
theorem open_ref {r : Reach} {b0 : Nat} {v : Value} {d : DataW H} {ps : List MemPlace} (hval : Value.okWide Tryz.prog w r b0 25 v) (hd : DataW.Trod enc Tryz.prog w base sp held 25 v d ps) :
    ∃ (z : Int) (s : Bool) (e n : Int), v = .agg #[.int .i64 z, .bool s, .int .i64 e, .int .i64 n] ∧ ps = [] := by
  obtain ⟨cs, rfl, hsz⟩ := okWide_struct Tryz.underlying25 hval
  obtain ⟨c0, c1, c2, c3, rfl⟩ := array4 (hsz.trans cellsRef)
  obtain ⟨fuel, hf⟩ := hd
  obtain ⟨y0, y1, y2, y3, m, e, _, h0, h1, h2, h3⟩ := trod_struct4 Tryz.underlying25 hf
  simp only [Value.cells, cells1, cellsBool, List.drop_zero, List.drop_succ_cons, List.take_succ_cons, List.take_zero] at h0 h1 h2 h3
  obtain ⟨z, e0, rfl, _⟩ := DataW.trod_int Tryz.underlying3 h0
  obtain ⟨s, e1, rfl⟩ := DataW.trod_bool Tryz.underlying4 h1
  obtain ⟨x, e2, rfl, _⟩ := DataW.trod_int Tryz.underlying3 h2
  obtain ⟨y, e3, rfl, _⟩ := DataW.trod_int Tryz.underlying3 h3
  simp at e0 e1 e2 e3
  simp only [Prod.mk.injEq] at e
  exact ⟨z, s, x, y, by rw [e0, e1, e2, e3], by rw [e.2]; rfl⟩
end
end Go.Proofs.YtcppgbhjbmfldaaGreatDoor

/- The numbers of the grid's strips. -/
namespace Go.Proofs.YtcppgbhjbmfldaaGreatDoor
abbrev gA : Nat := 4708606483430899712
abbrev gF : Nat := 4569877477558837545
abbrev gS : Nat := 4607178815920315512
abbrev g5e5 : Nat := 4692333547057315840
abbrev g1e7 : Nat := 4711630319722168320
end Go.Proofs.YtcppgbhjbmfldaaGreatDoor

/- Walks: zones, references, the strips of the grid. Printed by gen_gridplaces.py from DD and CA. -/
namespace Go.Proofs.YtcppgbhjbmfldaaGreatDoor
open Go.RowKit Go.Fp Go.Rel Go.Lib
set_option maxRecDepth 20000

abbrev refV (z : Int) (s : Bool) (e n : Int) : Value := .agg #[.int .i64 z, .bool s, .int .i64 e, .int .i64 n]
/-- a reference that is one -/
def OkRef (z e n : Int) : Prop := 1 ≤ z ∧ z ≤ 60 ∧ 0 ≤ e ∧ e ≤ 999999 ∧ 0 ≤ n ∧ n ≤ 9999999

set_option maxHeartbeats 4000000 in
theorem refValid_ok (z : Int) (s : Bool) (e n : Int) (h : OkRef z e n) (w : World) : Calls Tryz.prog 18 #[refV z s e n] w (ExR .nilIface w) := by
  obtain ⟨h1, h2, h3, h4, h5, h6⟩ := h
  go_enter Tryz.func18, Tryz.ntmps18
  go_wp2_with fail
  go_ret
  exact ⟨rfl, (Ext.refl w).alloc _⟩
set_option maxHeartbeats 4000000 in
theorem refValid_bad {A : Nat → Addr} (z : Int) (s : Bool) (e n : Int) (h : ¬ OkRef z e n) (w : World) (h8 : World8 A w) : Calls Tryz.prog 18 #[refV z s e n] w (ExR (errV (A 0)) w) := by
  have HH := Lib.hid h
  clear h
  have kg := (h8.ext ((Ext.refl w).alloc (.cells #[.int .i64 z, .bool s, .int .i64 e, .int .i64 n] 27))).errs.cell 0 (by decide)
  go_enter Tryz.func18, Tryz.ntmps18
  go_wp2_with fail
  all_goals (first | go_ret | (exfalso; omega))
  all_goals first
    | exact ⟨rfl, (Ext.refl w).alloc _⟩
    | (exfalso; refine HH.out ⟨?_, ?_, ?_, ?_, ?_, ?_⟩ <;> omega)
set_option maxHeartbeats 4000000 in
theorem refError_ok (z : Int) (s : Bool) (e n : Int) (h : OkRef z e n) (w : World) : Calls Tryz.prog 24 #[refV z s e n] w (ExR (.int .i64 0) w) := by
  obtain ⟨h1, h2, h3, h4, h5, h6⟩ := h
  go_enter Tryz.func24, Tryz.ntmps24
  go_wp2_with fail
  go_ret
  exact ⟨rfl, (Ext.refl w).alloc _⟩
set_option maxHeartbeats 4000000 in
theorem refError_bad (z : Int) (s : Bool) (e n : Int) (h : ¬ OkRef z e n) (w : World) : Calls Tryz.prog 24 #[refV z s e n] w (ExR (.int .i64 4) w) := by
  have HH := Lib.hid h
  clear h
  go_enter Tryz.func24, Tryz.ntmps24
  go_wp2_with fail
  all_goals (first | go_ret | (exfalso; omega))
  all_goals first
    | exact ⟨rfl, (Ext.refl w).alloc _⟩
    | (exfalso; refine HH.out ⟨?_, ?_, ?_, ?_, ?_, ?_⟩ <;> omega)
    | (exfalso; refine HH.out ?_; unfold OkRef; simp_all; done)
    | trace_state
/-- the zone of an angle -/
def zoneP (a : Int) : Int := if signP a = 180000000000 then 1 else (signP a + 180000000000) / 6000000000 + 1
theorem sign_range (a : Int) : -180000000000 < signP a ∧ signP a ≤ 180000000000 := by
  have h := norm_range a
  unfold signP
  split <;> omega
set_option maxHeartbeats 4000000 in
theorem zone_c (a : Int) (w : World) : Calls Tryz.prog 14 #[.int .i64 a] w (ExR (.int .i64 (zoneP a)) w) := by
  obtain ⟨n1, n2⟩ := sign_range a
  have HN := Lib.hid (signed_c a)
  unfold zoneP
  generalize signP a = l at *
  by_cases h : l = 180000000000
  · rw [if_pos h]
    subst h
    go_enter Tryz.func14, Tryz.ntmps14
    go_wp2_with (first | (go_at_call 31; go_must (refine (HN.out _).mono ?_; rintro e w1 ⟨rfl, hx⟩)))
    go_ret
    exact ⟨rfl, hx⟩
  · rw [if_neg h]
    go_enter Tryz.func14, Tryz.ntmps14
    go_wp2_with (first | (go_at_call 31; go_must (refine (HN.out _).mono ?_; rintro e w1 ⟨rfl, hx⟩)))
    go_ret
    refine ⟨?_, hx⟩
    first | rfl | (congr 1; omega)

set_option maxHeartbeats 4000000 in
theorem zoneOf_c (a : Int) (w : World) : Calls Tryz.prog 20 #[.int .i64 a] w (ExR (.int .i64 (zoneP a)) w) := by
  obtain ⟨n1, n2⟩ := sign_range a
  have HN := Lib.hid (signedAngle_c a)
  unfold zoneP
  generalize signP a = l at *
  by_cases h : l = 180000000000
  · rw [if_pos h]
    subst h
    go_enter Tryz.func20, Tryz.ntmps20
    go_wp2_with (first | (go_at_call 28; go_must (refine (HN.out _).mono ?_; rintro e w1 ⟨rfl, hx⟩)))
    go_ret
    exact ⟨rfl, hx⟩
  · rw [if_neg h]
    obtain ⟨q, hq⟩ : ∃ q : Nat, (q : Int) = (l + 180000000000) / 6000000000 := ⟨((l + 180000000000) / 6000000000).toNat, by omega⟩
    rw [← hq]
    have q1 : 6000000000 * (q : Int) ≤ l + 180000000000 := by omega
    have q2 : l + 180000000000 < 6000000000 * (q : Int) + 6000000000 := by omega
    have q3 : q < 60 := by omega
    clear hq
    have h2 : ¬ 2 * l = 360000000000 := by omega
    go_enter Tryz.func20, Tryz.ntmps20
    go_wp2_with (first | (go_at_call 28; go_must (refine (HN.out _).mono ?_; rintro e w1 ⟨rfl, hx⟩)))
    go_loopw [4] (fun zv wr => ∃ (k : Nat), zv = .int .i64 ((k : Int) + 1) ∧ k ≤ q ∧ Ext w wr) (fun zv _ => q + 1 - (RowKit.intOf zv).toNat)
    case atStart => exact ⟨0, rfl, by omega, hx⟩
    case round =>
      obtain ⟨k, rfl, hk, hw⟩ := hrel
      rcases Nat.lt_or_ge k q with hlt | hge
      · have hge2 : (6 * ((k : Int) + 1) - 180) * 1000000000 ≤ l := by omega
        go_wp2_with fail
        go_roundw
        case rel => exact ⟨k + 1, by simp, by omega, hw⟩
        all_goals (simp [RowKit.intOf]; omega)
      · obtain rfl : k = q := by omega
        have hge2 : ¬ (6 * ((k : Int) + 1) - 180) * 1000000000 ≤ l := by omega
        go_wp2_with fail
        go_ret
        exact ⟨rfl, hw⟩

set_option maxHeartbeats 4000000 in
theorem middle_ok (z : Int) (h1 : 1 ≤ z) (h2 : z ≤ 60) (w : World) : Calls Tryz.prog 13 #[.int .i64 z] w (ExR (.tuple #[.int .i64 ((6 * z - 183) * 1000000000), .nilIface]) w) := by
  go_enter Tryz.func13, Tryz.ntmps13
  go_wp2_with fail
  exact bodyPost_ret (v := .tuple #[.int .i64 ((6 * z - 183) * 1000000000), .nilIface]) (by simp [results, Tryz.results13, go_sem]) rfl ⟨rfl, Ext.refl _⟩
set_option maxHeartbeats 4000000 in
theorem zoned_c (w : World) : Calls Tryz.prog 4 #[] w (ExR (.bool true) w) := by
  go_enter Tryz.func4, Tryz.ntmps4
  go_wp2_with (first
    | (go_at_call 13; go_must (refine (middle_ok 31 (by decide) (by decide) _).mono ?_; rintro e w1 ⟨rfl, hx⟩))
    | (go_at_call 14; go_must (refine (zone_c _ _).mono ?_; rintro e w2 ⟨rfl, hx2⟩)))
  go_ret
  exact ⟨by first | rfl | (simp; decide), hx.trans hx2⟩

set_option maxHeartbeats 4000000 in
theorem gref_c (z : Int) (s : Bool) (e n : Int) (w : World) : Calls Tryz.prog 8 #[refV z s e n] w (ExR (refV z s e n) w) := by
  go_enter Tryz.func8, Tryz.ntmps8
  go_wp2_with fail
  exact bodyPost_ret (v := refV z s e n) (by simp [results, Tryz.results8, go_sem]) rfl ⟨rfl, by repeat (first | exact Ext.refl _ | refine Ext.alloc ?_ _ | refine Ext.setCell ?_ (by simp) _)⟩
theorem zone_in (a : Int) : 1 ≤ zoneP a ∧ zoneP a ≤ 60 := by
  obtain ⟨h1, h2⟩ := sign_range a
  unfold zoneP
  split <;> omega
theorem blk_setS {w : World} {n i : Nat} {t : TypeId} {cs : Array Value} (v : Value) (h : Blk w n t cs) : Blk (w.setCell ⟨n, i, none⟩ v) n t (cs.setIfInBounds i v) := by
  unfold Blk at *
  simp [World.setCell, Array.getElem?_modify, h]
theorem set_four {w w3 : World} {n : Nat} {t : TypeId} {a b c d u v x y : Value} (h : Ext w w3) (hz : Blk w3 n t #[a, b, c, d]) (hw : w.heap.size ≤ n) :
    Ext w ((((w3.setCell ⟨n, 0, none⟩ u).setCell ⟨n, 1, none⟩ v).setCell ⟨n, 2, none⟩ x).setCell ⟨n, 3, none⟩ y) ∧ Blk ((((w3.setCell ⟨n, 0, none⟩ u).setCell ⟨n, 1, none⟩ v).setCell ⟨n, 2, none⟩ x).setCell ⟨n, 3, none⟩ y) n t #[u, v, x, y] := by
  refine ⟨(((h.setCell hw _).setCell hw _).setCell hw _).setCell hw _, ?_⟩
  simpa using blk_setS (i := 3) y (blk_setS (i := 2) x (blk_setS (i := 1) v (blk_setS (i := 0) u hz)))
set_option maxHeartbeats 4000000 in
theorem gstrip_c {A : Nat → Addr} (z : Int) (h1 : 1 ≤ z) (h2 : z ≤ 60) (w : World) (h8 : World8 A w) : Calls Tryz.prog 15 #[.int .i64 z] w (ExR (.agg #[.float .f64 gA, .float .f64 gF, .int .i64 ((6 * z - 183) * 1000000000), .float .f64 gS]) w) := by
  have HK := Lib.hid (fun w h8 => known_c (A := A) KnownG.wgs w h8)
  have HM := Lib.hid (fun w => middle_ok z h1 h2 w)
  go_enter Tryz.func15, Tryz.ntmps15
  go_wp2_with (first
    | (go_at_call 32; go_must (refine (HK.out _ (h8.ext (by repeat (first | exact Ext.refl _ | refine Ext.alloc ?_ _)))).mono ?_; rintro e w1 ⟨v, rfl, hv, hx⟩; cases hv; obtain ⟨hb2, hw⟩ := ext1 hx; clear hx))
    | (go_at_call 13; go_must (refine (HM.out _).mono ?_; rintro e w2 ⟨rfl, hx2⟩; obtain ⟨hb3, hx⟩ := ext1 hx2; replace hb2 := hb2.ext hx; replace hw := hw.trans hx; clear hx hx2; have c2 := hb2.cell; have f2 := hb2.frozen; have c3 := hb3.cell)))
  obtain ⟨hx, k2⟩ := set_four (u := .float .f64 gA) (v := .float .f64 gF) (x := .int .i64 ((6 * z - 183) * 1000000000)) (y := .float .f64 gS) hw hb2 (Nat.le_refl _)
  have kc := k2.cell
  exact bodyPost_ret (v := .agg #[.float .f64 gA, .float .f64 gF, .int .i64 ((6 * z - 183) * 1000000000), .float .f64 gS]) (by simp [results, Tryz.results15, go_sem, kc]) rfl ⟨rfl, hx⟩
set_option maxHeartbeats 4000000 in
theorem stripOf_c (z : Int) (h1 : 1 ≤ z) (h2 : z ≤ 60) (w : World) : Calls Tryz.prog 19 #[.int .i64 z] w (ExR (.agg #[.float .f64 gA, .float .f64 gF, .int .i64 ((6 * z - 183) * 1000000000), .float .f64 gS]) w) := by
  have HK := Lib.hid (fun w => knownOf_c KnownG.wgs w)
  go_enter Tryz.func19, Tryz.ntmps19
  go_wp2_with (first
    | (go_at_call 37; go_must (refine (HK.out _).mono ?_; rintro e w1 ⟨rfl, hx⟩; obtain ⟨hb2, hw⟩ := ext1 hx; clear hx; have c2 := hb2.cell; have f2 := hb2.frozen; have l2 := hb2.lt)))
  obtain ⟨hx, k2⟩ := set_four (u := .float .f64 gA) (v := .float .f64 gF) (x := .int .i64 ((6 * z - 183) * 1000000000)) (y := .float .f64 gS) hw hb2 (Nat.le_refl _)
  have kc := (k2.ext ((Ext.refl _).alloc (.cells #[.float .f64 gA, .float .f64 gF] 58))).cell
  exact bodyPost_ret (v := .agg #[.float .f64 gA, .float .f64 gF, .int .i64 ((6 * z - 183) * 1000000000), .float .f64 gS]) (by simp [results, Tryz.results19, go_sem, kc]) rfl ⟨rfl, hx.alloc _⟩
end Go.Proofs.YtcppgbhjbmfldaaGreatDoor

/- Regions that draw their order, walked once, each slot's value bearing a word of its own on the world. -/
namespace Go.Rel
open Go.RowKit

/-- a word on a slot's value and a world that no later world takes back -/
structure ToldI (R : Tmp → Value → World → Prop) : Prop where
  mono : ∀ d v w w', R d v w → Ext w w' → R d v w'
  undef : ∀ d w, R d undef w
/-- the word on what an operation yields -/
def AtR (R : Tmp → Value → World → Prop) (dst : Option Tmp) (v : Value) (w : World) : Prop := ∀ d, dst = some d → R d v w
theorem ToldI.at {R : Tmp → Value → World → Prop} (h : ToldI R) (dst : Option Tmp) : Told (AtR R dst) where
  mono := fun v w w' k hx d e => h.mono d v w w' (k d e) hx
  undef := fun w d _ => h.undef d w

section
variable {P : Program} {ops : Array Oper} {md : Region.Mode} {w0 : World} {F : FuncId → Array Value → Value → Prop} {R : Tmp → Value → World → Prop}

/-- the values that an operation takes are told -/
def needsI (ops : Array Oper) (R : Tmp → Value → World → Prop) (o : Oper) (a : Act) (w : World) : Prop := ∀ d ∈ o.looksAt ops, R d (a.tmps.getD d undef) w
theorem needs_putI {o : Oper} {a : Act} {dst : Option Tmp} (v : Value) (h : ∀ d, dst = some d → d ∉ o.looksAt ops) : needsI ops R o (a.put dst v) = needsI ops R o a := by
  funext w
  unfold needsI
  refine propext ⟨fun k d hd => ?_, fun k d hd => ?_⟩
  · have := k d hd
    rwa [put_getD_other a dst d v (fun e => h d e hd)] at this
  · rw [put_getD_other a dst d v (fun e => h d e hd)]
    exact k d hd

/-- what is known ahead of an operation -/
structure StI (R : Tmp → Value → World → Prop) (w0 : World) (a : Act) (Φ : Post) : Prop where
  mono : ∀ w w', Φ w → Ext w w' → Φ w'
  all : ∀ w, Ext w0 w → Φ w → ∀ d, R d (a.tmps.getD d undef) w
  live : ∃ w, Ext w0 w ∧ Φ w
theorem told_putI {w : World} {a : Act} {dst : Option Tmp} {v : Value} (hR : ToldI R) (h : ∀ d, R d (a.tmps.getD d undef) w) (hv : AtR R dst v w) (d : Tmp) : R d ((a.put dst v).tmps.getD d undef) w := by
  by_cases e : dst = some d
  · subst e
    by_cases hd : d < a.tmps.size
    · rw [put_getD_same a d v hd]; exact hv _ rfl
    · have : (a.put (some d) v).tmps.getD d undef = undef := by simp [Act.put, hd]
      rw [this]; exact hR.undef _ _
  · rw [put_getD_other a dst d v e]; exact h d
theorem StI.step {a : Act} {Φ : Post} {D : World → Prop} {s : Sem Next} {dst : Option Tmp} {v : Value} (hR : ToldI R) (h : StI R w0 a Φ) (hl : ∃ w, Ext w0 w ∧ Φ w ∧ MayD P F (AtR R dst) w0 D s v w) :
    StI R w0 (a.put dst v) (fun w => Φ w ∧ MayD P F (AtR R dst) w0 D s v w) where
  mono := fun w w' k x => ⟨h.mono _ _ k.1 x, k.2.mono x⟩
  all := fun w hw k d => told_putI hR (h.all w hw k.1) (k.2.told (hR.at dst)) d
  live := hl
theorem StI.skip {a : Act} {Φ : Post} {dst : Option Tmp} (hR : ToldI R) (h : StI R w0 a Φ) : StI R w0 (a.put dst undef) Φ where
  mono := h.mono
  all := fun w hw k d => told_putI hR (h.all w hw k) (fun d _ => hR.undef d w) d
  live := h.live
theorem StI.need {a : Act} {Φ : Post} (h : StI R w0 a Φ) (o : Oper) {w : World} (hw : Ext w0 w) (k : Φ w) : needsI ops R o a w := fun d _ => h.all w hw k d
theorem StI.may {a : Act} {Φ : Post} {o : Oper} (h : StI R w0 a Φ) (hp : ProgD P F (AtR R o.dst) w0 (needsI ops R o a) (execOp a.eval o)) :
    ∃ v w, Ext w0 w ∧ Φ w ∧ MayD P F (AtR R o.dst) w0 (needsI ops R o a) (execOp a.eval o) v w := by
  obtain ⟨w, hw, hΦ⟩ := h.live
  obtain ⟨v, w', hx, hm⟩ := hp.may hw (h.need o hw hΦ)
  exact ⟨v, w', hw.trans hx, h.mono _ _ hΦ hx, hm⟩

def rOpDI (P : Program) (ops : Array Oper) (F : FuncId → Array Value → Value → Prop) (R : Tmp → Value → World → Prop) (w0 : World) (i : Nat) (K : Act → Post → Prop) (a : Act) (Φ : Post) : Prop :=
  match ops[i]? with
  | none => K a Φ
  | some o =>
    if Region.wanted o (yielded ops a.tmps) then
      ProgD P F (AtR R o.dst) w0 (needsI ops R o a) (execOp a.eval o) ∧ ∀ v, (∃ w, Ext w0 w ∧ Φ w ∧ MayD P F (AtR R o.dst) w0 (needsI ops R o a) (execOp a.eval o) v w) → K (a.put o.dst v) (fun w => Φ w ∧ MayD P F (AtR R o.dst) w0 (needsI ops R o a) (execOp a.eval o) v w)
    else K (a.put o.dst undef) Φ
def wpRelDI (P : Program) (ops : Array Oper) (F : FuncId → Array Value → Value → Prop) (R : Tmp → Value → World → Prop) (w0 : World) (Q : Act → Post → Prop) : List Oper → Act → Post → Prop
  | [], a, Φ => Q a Φ
  | o :: rest, a, Φ =>
    if Region.wanted o (yielded ops a.tmps) then
      ProgD P F (AtR R o.dst) w0 (needsI ops R o a) (execOp a.eval o) ∧ ∀ v, (∃ w, Ext w0 w ∧ Φ w ∧ MayD P F (AtR R o.dst) w0 (needsI ops R o a) (execOp a.eval o) v w) → wpRelDI P ops F R w0 Q rest (a.put o.dst v) (fun w => Φ w ∧ MayD P F (AtR R o.dst) w0 (needsI ops R o a) (execOp a.eval o) v w)
    else wpRelDI P ops F R w0 Q rest (a.put o.dst undef) Φ
def wpAnyDI (P : Program) (md : Region.Mode) (ops : Array Oper) (F : FuncId → Array Value → Value → Prop) (R : Tmp → Value → World → Prop) (w0 : World) (n : Nat) (L : Array Bool → Act → Post → Prop) : Nat → Array Bool → Act → Post → Prop
  | 0, listed, a, Φ => L listed a Φ
  | f + 1, listed, a, Φ => Region.ready md ops listed ≠ [] ∧ ∀ i ∈ Region.ready md ops listed, i < n ∧ rOpDI P ops F R w0 i (wpAnyDI P md ops F R w0 n L f (listed.setIfInBounds i true)) a Φ

theorem rOpD_monoI {i : Nat} {K K' : Act → Post → Prop} {a : Act} {Φ Φ' : Post} (hΦ : ∀ w, Φ' w → Φ w) (h : ∀ a Φ Φ', (∀ w, Φ' w → Φ w) → K a Φ → K' a Φ')
    (hh : rOpDI P ops F R w0 i K a Φ) : rOpDI P ops F R w0 i K' a Φ' := by
  unfold rOpDI at *
  split
  · rename_i ho; simp only [ho] at hh; exact h _ _ _ hΦ hh
  · rename_i o ho
    simp only [ho] at hh
    split
    · rename_i hw
      simp only [hw, if_true] at hh
      refine ⟨hh.1, fun v hv => h _ _ _ (fun w k => ⟨hΦ w k.1, k.2⟩) (hh.2 v ?_)⟩
      obtain ⟨w, x, y, z⟩ := hv
      exact ⟨w, x, hΦ w y, z⟩
    · rename_i hw
      simp only [hw] at hh
      exact h _ _ _ hΦ hh
theorem wpAnyD_monoI {n : Nat} {L : Array Bool → Act → Post → Prop} (hL : ∀ l a Φ Φ', (∀ w, Φ' w → Φ w) → L l a Φ → L l a Φ') :
    ∀ (f : Nat) (listed : Array Bool) (a : Act) (Φ Φ' : Post), (∀ w, Φ' w → Φ w) → wpAnyDI P md ops F R w0 n L f listed a Φ → wpAnyDI P md ops F R w0 n L f listed a Φ'
  | 0, listed, a, Φ, Φ', hΦ, h => hL listed a Φ Φ' hΦ h
  | f + 1, _, _, _, _, hΦ, h => ⟨h.1, fun i hi => ⟨(h.2 i hi).1, rOpD_monoI hΦ (fun a Φ Φ' k hh => wpAnyD_monoI hL f _ a Φ Φ' k hh) (h.2 i hi).2⟩⟩

theorem wpOp_of_rOpDI {i : Nat} {a : Act} {K : Act → Post → Prop} {K' : Act → World → Prop} {Q' : Exit → Act → World → Prop} {w : World} {Φ : Post} (hR : ToldI R)
    (hw : Ext w0 w) (hΦ : Φ w) (hs : StI R w0 a Φ)
    (h : ∀ a w' Φ', Ext w0 w' → Φ' w' → StI R w0 a Φ' → K a Φ' → K' a w') (hh : rOpDI P ops F R w0 i K a Φ) : wpOp P ops Q' i K' a w := by
  unfold rOpDI at hh
  unfold wpOp
  split
  · rename_i ho; simp only [ho] at hh; exact h _ _ _ hw hΦ hs hh
  · rename_i o ho
    simp only [ho] at hh
    split
    · rename_i hwd
      simp only [hwd, if_true] at hh
      obtain ⟨hp, hk⟩ := hh
      refine .inl ?_
      have hp1 := hp w hw (hs.need o hw hΦ)
      have key : ∀ v w', Ext w w' → MayD P F (AtR R o.dst) w0 (needsI ops R o a) (execOp a.eval o) v w' → K' (a.put o.dst v) w' := fun v w' hx hC =>
        have hl : ∃ w, Ext w0 w ∧ Φ w ∧ MayD P F (AtR R o.dst) w0 (needsI ops R o a) (execOp a.eval o) v w := ⟨w', hw.trans hx, hs.mono _ _ hΦ hx, hC⟩
        h _ _ _ (hw.trans hx) ⟨hs.mono _ _ hΦ hx, hC⟩ (hs.step hR hl) (hk v hl)
      unfold Oper.wp
      cases hr : (execOp a.eval o).run P w with
      | ok x w' =>
        simp only [hr] at hp1
        cases x <;> simp only [Oper.upon] <;> first | (exact hp1.elim) | skip
        case value v => exact key v w' hp1.1 ⟨w, hw, hs.need o hw hΦ, by rw [hr]; exact ⟨rfl, hp1.2, Ext.refl _⟩⟩
        case skip => exact key undef w' hp1 ⟨w, hw, hs.need o hw hΦ, by rw [hr]; exact ⟨rfl, Ext.refl _⟩⟩
        case enter f args =>
          refine hp1.2.mono ?_
          rintro e w'' ⟨v, rfl, hF, hRv, hx⟩
          exact key v w'' (hp1.1.trans hx) ⟨w, hw, hs.need o hw hΦ, by rw [hr]; exact ⟨hF, w'', hRv, hx, Ext.refl _⟩⟩
      | halt x w' => simp only [hr] at hp1
    · rename_i hwd
      simp only [hwd] at hh
      exact h _ _ _ hw hΦ (hs.skip hR) hh

theorem wpAny_of_relDI {n g : Nat} {L : Array Bool → Act → Post → Prop} {Q' : Exit → Act → World → Prop} (hR : ToldI R)
    (hL : ∀ listed a w Φ, Ext w0 w → Φ w → L listed a Φ → wpAny P md ops Q' g listed a w) :
    ∀ (f : Nat) (listed : Array Bool) (a : Act) (w : World) (Φ : Post), Ext w0 w → Φ w → StI R w0 a Φ → wpAnyDI P md ops F R w0 n L f listed a Φ → wpAny P md ops Q' (f + g) listed a w
  | 0, listed, a, w, Φ, hw, hΦ, _, h => by rw [Nat.zero_add]; exact hL _ _ _ _ hw hΦ h
  | f + 1, listed, a, w, Φ, hw, hΦ, hm, h => by
    rw [show f + 1 + g = (f + g) + 1 by omega]
    exact ⟨fun h0 => absurd h0 h.1, fun i hi => wpOp_of_rOpDI hR hw hΦ hm (fun a' w' Φ' hw' hΦ' hm' h' => wpAny_of_relDI hR hL f _ a' w' Φ' hw' hΦ' hm' h') (h.2 i hi).2⟩

theorem rOpD_firstI {n : Nat} {i : Nat} {oi : Oper} {L : Array Bool → Act → Post → Prop} (hR : ToldI R) (hi : ops[i]? = some oi) (hsel : ∀ (j : Nat) (o : Oper) cs b, ops[j]? = some o → o.op ≠ .select cs b)
    (hL : ∀ l a Φ Φ', (∀ w, Φ' w → Φ w) → L l a Φ → L l a Φ')
    (hready : ∀ listed, HeadInv md ops n listed → i ∈ Region.ready md ops listed → ∀ j ∈ Region.ready md ops listed, j < n)
    (hdone : ∀ listed a Φ, L listed a Φ → ∀ j ∈ Region.ready md ops listed, n ≤ j) :
    ∀ (f : Nat) (listed : Array Bool) (a : Act) (Φ : Post), HeadInv md ops n listed →
      (∀ j oj, ops[j]? = some oj → j ≠ i → listed.getD j true = false → (∀ e ∈ oj.after, Region.binds md e = true → e.on ≠ i) → oi.apart ops oj = true) →
      i ∈ Region.ready md ops listed → StI R w0 a Φ → rOpDI P ops F R w0 i (wpAnyDI P md ops F R w0 n L f (listed.setIfInBounds i true)) a Φ → wpAnyDI P md ops F R w0 n L (f + 1) listed a Φ := by
  intro f
  induction f with
  | zero =>
    intro listed a Φ inv _ hr hs H
    refine ⟨fun h => (by rw [h] at hr; cases hr), fun j hj => ⟨hready listed inv hr j hj, ?_⟩⟩
    by_cases hji : j = i
    · subst hji; exact H
    · exfalso
      have hjn := hready listed inv hr j hj
      have hex : ∃ a' Φ', wpAnyDI P md ops F R w0 n L 0 (listed.setIfInBounds i true) a' Φ' := by
        unfold rOpDI at H
        simp only [hi] at H
        split at H
        · obtain ⟨v, w, hv⟩ := hs.may H.1; exact ⟨_, _, H.2 v ⟨w, hv⟩⟩
        · exact ⟨_, _, H⟩
      obtain ⟨a', Φ', h'⟩ := hex
      have := hdone _ _ _ h' j (ready_mono hj hji)
      omega
  | succ f ih =>
    intro listed a Φ inv hfree hr hs H
    have hun := (mem_ready.1 hr).1
    refine ⟨fun h => (by rw [h] at hr; cases hr), fun j hj => ⟨hready listed inv hr j hj, ?_⟩⟩
    by_cases hji : j = i
    · subst hji; exact H
    · have hjn := hready listed inv hr j hj
      obtain ⟨hjun, oj, hoj, hall⟩ := mem_ready.1 hj
      have hnot : ∀ e ∈ oj.after, Region.binds md e = true → e.on ≠ i := fun e he hb heq => by
        have h1 := hall e he hb
        rw [heq, getD_both hun] at h1
        cases h1
      have hap := hfree j oj hoj hji hjun hnot
      obtain ⟨h1, h2, h3⟩ := Oper.apart_spec hap
      have hfree' : ∀ k ok, ops[k]? = some ok → k ≠ i → (listed.setIfInBounds j true).getD k true = false →
          (∀ e ∈ ok.after, Region.binds md e = true → e.on ≠ i) → oi.apart ops ok = true := fun k ok hk hki hun' hno => by
        refine hfree k ok hk hki ?_ hno
        by_cases hjk : j = k
        · subst hjk; exact hjun
        · rw [getD_set_ne true hjk] at hun'; exact hun'
      have inv' := inv.set hj hjn
      have hr' := ready_mono hr (Ne.symm hji)
      have hjv : ∀ (v : Value) (Ψ : Post), wpAnyDI P md ops F R w0 n L (f + 1) (listed.setIfInBounds i true) (a.put oi.dst v) Ψ →
          rOpDI P ops F R w0 j (wpAnyDI P md ops F R w0 n L f ((listed.setIfInBounds i true).setIfInBounds j true)) (a.put oi.dst v) Ψ := fun v Ψ h => (h.2 j (ready_mono hj hji)).2
      have ex_j : ∀ v, execOp (a.put oi.dst v).eval oj = execOp a.eval oj := fun v => execOp_put oj (fun cs b => hsel j oj cs b hoj) a oi.dst v h1
      have wa_j : ∀ v, Region.wanted oj (yielded ops (a.put oi.dst v).tmps) = Region.wanted oj (yielded ops a.tmps) := fun v => wanted_put oj a oi.dst v h1
      have ex_i : ∀ u, execOp (a.put oj.dst u).eval oi = execOp a.eval oi := fun u => execOp_put oi (fun cs b => hsel i oi cs b hi) a oj.dst u h3
      have wa_i : ∀ u, Region.wanted oi (yielded ops (a.put oj.dst u).tmps) = Region.wanted oi (yielded ops a.tmps) := fun u => wanted_put oi a oj.dst u h3
      have ne_j : ∀ v, needsI ops R oj (a.put oi.dst v) = needsI ops R oj a := fun v => needs_putI v h1
      have ne_i : ∀ u, needsI ops R oi (a.put oj.dst u) = needsI ops R oi a := fun u => needs_putI u h3
      unfold rOpDI at H
      simp only [hi] at H
      unfold rOpDI
      simp only [hoj]
      by_cases hwi : Region.wanted oi (yielded ops a.tmps) = true
      · simp only [hwi, if_true] at H
        obtain ⟨hpi, hki⟩ := H
        obtain ⟨v0, wv, hv0⟩ := hs.may hpi
        have hj0 := hjv v0 _ (hki v0 ⟨wv, hv0⟩)
        unfold rOpDI at hj0
        simp only [hoj, wa_j, ex_j, ne_j] at hj0
        by_cases hwj : Region.wanted oj (yielded ops a.tmps) = true
        · simp only [hwj, if_true] at hj0 ⊢
          refine ⟨hj0.1, fun u hu => ?_⟩
          refine ih (listed.setIfInBounds j true) (a.put oj.dst u) _ inv' hfree' hr' (hs.step hR hu) ?_
          unfold rOpDI
          simp only [hi, wa_i, ex_i, ne_i, hwi, if_true]
          refine ⟨hpi, fun v hv => ?_⟩
          obtain ⟨wl, l1, ⟨l2, l3⟩, l4⟩ := hv
          have hjv' := hjv v _ (hki v ⟨wl, l1, l2, l4⟩)
          unfold rOpDI at hjv'
          simp only [hoj, wa_j, ex_j, ne_j, hwj, if_true] at hjv'
          have := hjv'.2 u ⟨wl, l1, ⟨l2, l4⟩, l3⟩
          rw [Array.setIfInBounds_comm _ _ hji]
          rw [← Act.put_comm a v u h2]
          exact wpAnyD_monoI hL f _ _ _ _ (fun w k => ⟨⟨k.1.1, k.2⟩, k.1.2⟩) this
        · simp only [hwj] at hj0 ⊢
          refine ih (listed.setIfInBounds j true) (a.put oj.dst undef) _ inv' hfree' hr' (hs.skip hR) ?_
          unfold rOpDI
          simp only [hi, wa_i, ex_i, ne_i, hwi, if_true]
          refine ⟨hpi, fun v hv => ?_⟩
          have hjv' := hjv v _ (hki v hv)
          unfold rOpDI at hjv'
          simp only [hoj, wa_j, hwj] at hjv'
          rw [Array.setIfInBounds_comm _ _ hji]
          rw [← Act.put_comm a v undef h2]
          exact hjv'
      · simp only [hwi] at H
        have hj0 := hjv undef _ H
        unfold rOpDI at hj0
        simp only [hoj, wa_j, ex_j, ne_j] at hj0
        by_cases hwj : Region.wanted oj (yielded ops a.tmps) = true
        · simp only [hwj, if_true] at hj0 ⊢
          refine ⟨hj0.1, fun u hu => ?_⟩
          refine ih (listed.setIfInBounds j true) (a.put oj.dst u) _ inv' hfree' hr' (hs.step hR hu) ?_
          unfold rOpDI
          simp only [hi, wa_i, hwi]
          have := hj0.2 u hu
          rw [Array.setIfInBounds_comm _ _ hji]
          rw [← Act.put_comm a undef u h2]
          exact this
        · simp only [hwj] at hj0 ⊢
          refine ih (listed.setIfInBounds j true) (a.put oj.dst undef) _ inv' hfree' hr' (hs.skip hR) ?_
          unfold rOpDI
          simp only [hi, wa_i, hwi]
          rw [Array.setIfInBounds_comm _ _ hji]
          rw [← Act.put_comm a undef undef h2]
          exact hj0

theorem wpRelD_lexI {n g : Nat} {Q : Act → Post → Prop} (hR : ToldI R) (hQ : ∀ a Φ Φ', (∀ w, Φ' w → Φ w) → Q a Φ → Q a Φ') (hsel : Region.noSelect ops = true)
    (hready : ∀ listed i, i < n → HeadInv md ops n listed → i ∈ Region.ready md ops listed → ∀ j ∈ Region.ready md ops listed, j < n) :
    ∀ (l : List Oper) (k : Nat) (listed : Array Bool) (a : Act) (Φ : Post), (∀ j, j < l.length → l[j]? = ops[k + j]?) → k + l.length = n → HeadInv md ops n listed →
    Region.lexHead md ops g l.length k listed = true → StI R w0 a Φ → wpRelDI P ops F R w0 Q l a Φ →
    wpAnyDI P md ops F R w0 n (fun listed' a' Φ' => Region.seqB md ops g n listed' = true ∧ Q a' Φ') l.length listed a Φ
  | [], k, listed, a, Φ, _, hk, _, hB, _, h => by
    have : k = n := by simpa using hk
    subst this
    exact ⟨by simpa [Region.lexHead] using hB, h⟩
  | o :: l, k, listed, a, Φ, hl, hk, inv, hB, hs, h => by
    have h0 : ops[k]? = some o := by simpa using (hl 0 (by simp)).symm
    simp only [List.length_cons, Region.lexHead, Bool.and_eq_true] at hB
    obtain ⟨⟨hr, hf⟩, hB'⟩ := hB
    have hkn : k < n := by simp only [List.length_cons] at hk; omega
    have hr' : k ∈ Region.ready md ops listed := by simpa using hr
    refine rOpD_firstI hR h0 (Region.noSelect_spec hsel) (fun l a Φ Φ' k h => ⟨h.1, hQ _ _ _ k h.2⟩) (fun listed inv hi => hready listed k hkn inv hi) (fun listed' a' Φ' hL => seqB_ready hL.1) l.length listed a Φ inv
      (Region.free_spec h0 hf) hr' hs ?_
    have rest : ∀ a' Φ', StI R w0 a' Φ' → wpRelDI P ops F R w0 Q l a' Φ' → wpAnyDI P md ops F R w0 n (fun listed' a' Φ' => Region.seqB md ops g n listed' = true ∧ Q a' Φ') l.length (listed.setIfInBounds k true) a' Φ' := fun a' Φ' hs' h' =>
      wpRelD_lexI hR hQ hsel hready l (k + 1) _ a' Φ' (fun j hj => by have := hl (j + 1) (by simp; omega); simpa [Nat.add_assoc, Nat.add_comm 1 j] using this) (by simp only [List.length_cons] at hk; omega) (inv.set hr' hkn) hB' hs' h'
    unfold rOpDI
    simp only [h0]
    unfold wpRelDI at h
    split
    · rename_i hw; simp only [hw, if_true] at h; exact ⟨h.1, fun v hv => rest _ _ (hs.step hR hv) (h.2 v hv)⟩
    · rename_i hw; simp only [hw] at h; exact rest _ _ (hs.skip hR) h

theorem wp_region_relDI {id : Nat} {Q : Exit → Act → World → Prop} {a : Act} {w : World} {l : List Oper} (n : Nat) (F : FuncId → Array Value → Value → Prop) (R : Tmp → Value → World → Prop) (hR : ToldI R) (hm : P.follows .mixedOrders = true) (hB : relB .any l.toArray n = true)
    (ha : ∀ d, R d (a.tmps.getD d undef) w.drew)
    (h : wpRelDI P l.toArray F R w.drew (fun a' Φ => ∀ w', Ext w.drew w' → Φ w' → wpList P l.toArray Q (l.drop n) a' w') (l.take n) a (fun _ => True)) : (Code.region id l.toArray true).wp P Q a w := by
  simp only [relB, Bool.and_eq_true, Bool.or_eq_true, decide_eq_true_eq, beq_iff_eq] at hB
  obtain ⟨⟨hsel, hn⟩, hlex⟩ := hB
  have hn' : n ≤ l.length := by rcases hn with hn | hn <;> simp at hn <;> omega
  have htl : (l.take n).length = n := by simp; omega
  have hdl : (l.drop n).length = l.toArray.size - n := by simp
  have inv0 : HeadInv .any l.toArray n (Array.replicate l.toArray.size false) :=
    ⟨by simp, fun j oj _ hl => (by rw [getD_replicate_false] at hl; cases hl), fun t _ ht => getD_in (by simpa using ht) (getD_replicate_false _ _)⟩
  have hready : ∀ listed i, i < n → HeadInv .any l.toArray n listed → i ∈ Region.ready .any l.toArray listed → ∀ j ∈ Region.ready .any l.toArray listed, j < n := by
    intro listed i hi inv hir j hj
    rcases hn with hn | ⟨⟨hn, hs⟩, hc⟩
    · rw [hn]; exact ready_lt hj
    · rcases Nat.lt_or_ge j n with h | h
      · exact h
      · exact absurd hj (tail_waits hs hc hn inv _ i rfl hi (mem_ready.1 hir).1 j h)
  have hs0 : StI R w.drew a (fun _ => True) := ⟨fun _ _ _ _ => trivial, fun w' hw _ d => hR.mono _ _ _ _ (ha d) hw, ⟨w.drew, Ext.refl _, trivial⟩⟩
  have H := wpRelD_lexI (md := .any) (g := l.toArray.size - n) (n := n) (P := P) (F := F) (w0 := w.drew) (Q := fun a' Φ => ∀ w', Ext w.drew w' → Φ w' → wpList P l.toArray Q (l.drop n) a' w') hR
    (fun a Φ Φ' k h w' hx hΦ => h w' hx (k _ hΦ)) hsel hready (l.take n) 0 _ a (fun _ => True) (fun j hj => by
    have hj' : j < n := by rw [htl] at hj; exact hj
    simp [hj']) (by simpa using htl) inv0 (by rw [htl]; exact hlex) hs0 h
  refine wp_region_any hm ?_
  have := wpAny_of_relDI (Q' := Q) (g := l.toArray.size - n) hR (fun listed a' w' Φ hx hΦ hL => by
    have := wpAny_of_seq (md := .any) (Q' := Q) (l.drop n) n listed a' w' (fun j => by simp [List.getElem?_drop]) (by rw [hdl]; exact hL.1) (hL.2 w' hx hΦ)
    rwa [hdl] at this) _ _ _ w.drew _ (Ext.refl _) trivial hs0 H
  have hsz : n + (l.toArray.size - n) = l.toArray.size := by
    have : l.toArray.size = l.length := by simp
    omega
  rw [htl, hsz] at this
  exact this

/-- the walk, as it is used -/
def wpDI (P : Program) (ops : Array Oper) (F : FuncId → Array Value → Value → Prop) (R : Tmp → Value → World → Prop) (w0 : World) (Q : Act → Prop) : List Oper → Act → Prop
  | [], a => Q a
  | o :: rest, a =>
    if Region.wanted o (yielded ops a.tmps) then
      ProgD P F (AtR R o.dst) w0 (needsI ops R o a) (execOp a.eval o) ∧ ∀ v w, MayD P F (AtR R o.dst) w0 (needsI ops R o a) (execOp a.eval o) v w → wpDI P ops F R w0 Q rest (a.put o.dst v)
    else wpDI P ops F R w0 Q rest (a.put o.dst undef)
theorem wpRelD_of_wpDI {Q : Act → Post → Prop} (hR : ToldI R) (hQ : ∀ a Φ Φ', (∀ w, Φ' w → Φ w) → Q a Φ → Q a Φ') : ∀ (l : List Oper) (a : Act) (Φ : Post), StI R w0 a Φ → wpDI P ops F R w0 (fun a => Q a (fun w => ∀ d, R d (a.tmps.getD d undef) w)) l a →
    wpRelDI P ops F R w0 (fun a Φ => (∀ w, Ext w0 w → Φ w → ∀ d, R d (a.tmps.getD d undef) w) ∧ Q a (fun w => ∀ d, R d (a.tmps.getD d undef) w)) l a Φ
  | [], a, Φ, hs, h => ⟨hs.all, h⟩
  | o :: l, a, Φ, hs, h => by
    unfold wpDI at h
    unfold wpRelDI
    split
    · rename_i hw
      simp only [hw, if_true] at h
      refine ⟨h.1, fun v hv => ?_⟩
      obtain ⟨wv, k1, k2, k3⟩ := hv
      exact wpRelD_of_wpDI hR hQ l _ _ (hs.step hR ⟨wv, k1, k2, k3⟩) (h.2 v wv k3)
    · rename_i hw
      simp only [hw] at h
      exact wpRelD_of_wpDI hR hQ l _ _ (hs.skip hR) h
/-- one operation -/
theorem wpD_opI {Q : Act → Prop} {a : Act} {o : Oper} {rest : List Oper} (hg : o.guard = none)
    (h : ∀ w, Ext w0 w → needsI ops R o a w → ∀ K : Act → Prop, (∀ a, wpDI P ops F R w0 Q rest a → K a) → relUponD P F (AtR R o.dst) w (fun v => K (a.put o.dst v)) ((execOp a.eval o).run P w)) :
    wpDI P ops F R w0 Q (o :: rest) a := by
  unfold wpDI
  rw [if_pos (by simp [Region.wanted, hg])]
  exact progD_of_upon (K := fun v => wpDI P ops F R w0 Q rest (a.put o.dst v)) (fun w hw hD => h w hw hD (fun a => wpDI P ops F R w0 Q rest a) (fun a k => k))
theorem wpD_nilI {Q : Act → Prop} {a : Act} (h : Q a) : wpDI P ops F R w0 Q [] a := h

/-- THE WHOLE REGION'S FIRST n OPERATIONS in whatever order, the others in the text's. -/
theorem wp_region_toldI {id : Nat} {Q : Exit → Act → World → Prop} {a : Act} {w : World} {l : List Oper} (n : Nat) (F : FuncId → Array Value → Value → Prop) (R : Tmp → Value → World → Prop) (hR : ToldI R) (hm : P.follows .mixedOrders = true) (hB : relB .any l.toArray n = true)
    (ha : ∀ d, R d (a.tmps.getD d undef) w.drew)
    (h : wpDI P l.toArray F R w.drew (fun a' => ∀ w', Ext w.drew w' → (∀ d, R d (a'.tmps.getD d undef) w') → wpList P l.toArray Q (l.drop n) a' w') (l.take n) a) : (Code.region id l.toArray true).wp P Q a w := by
  refine wp_region_relDI n F R hR hm hB ha ?_
  have hs0 : StI R w.drew a (fun _ => True) := ⟨fun _ _ _ _ => trivial, fun w' hw _ d => hR.mono _ _ _ _ (ha d) hw, ⟨w.drew, Ext.refl _, trivial⟩⟩
  have := wpRelD_of_wpDI (Q := fun a' Φ => ∀ w', Ext w.drew w' → Φ w' → wpList P l.toArray Q (l.drop n) a' w') hR (fun a Φ Φ' k h w' hx hΦ => h w' hx (k _ hΦ)) (l.take n) a (fun _ => True) hs0 h
  have mono : ∀ (l' : List Oper) (a : Act) (Φ : Post) (Q Q' : Act → Post → Prop), (∀ a Φ, Q a Φ → Q' a Φ) → wpRelDI P l.toArray F R w.drew Q l' a Φ → wpRelDI P l.toArray F R w.drew Q' l' a Φ := by
    intro l'
    induction l' with
    | nil => intro a Φ Q Q' hQ h; exact hQ _ _ h
    | cons o l' ih =>
      intro a Φ Q Q' hQ h
      unfold wpRelDI at h ⊢
      split
      · rename_i hw; simp only [hw, if_true] at h; exact ⟨h.1, fun v hv => ih _ _ _ _ hQ (h.2 v hv)⟩
      · rename_i hw; simp only [hw] at h; exact ih _ _ _ _ hQ h
  exact mono _ _ _ _ _ (fun a' Φ h w' hx hΦ => h.2 w' hx (h.1 w' hx hΦ)) this
end

@[go_sem] theorem atR_some (R : Tmp → Value → World → Prop) (d : Tmp) (v : Value) (w : World) : AtR R (some d) v w = R d v w := by simp [AtR]
/-- of slices made behind b: what they hold goes by the slot -/
def SlI (b : Nat) (t : TypeId) (C : Tmp → Array Value → Prop) (d : Tmp) : Value → World → Prop
  | .slice (some p) _ _, w => b ≤ p.block → ∃ cs, C d cs ∧ Blk w p.block t cs
  | _, _ => True
section
variable (b : Nat) (t : TypeId) (C : Tmp → Array Value → Prop) (d : Tmp) (w : World)
@[go_sem] theorem slI_float (k : FloatKind) (x : Nat) : SlI b t C d (.float k x) w = True := rfl
@[go_sem] theorem slI_int (k : IntKind) (x : Int) : SlI b t C d (.int k x) w = True := rfl
@[go_sem] theorem slI_bool (x : Bool) : SlI b t C d (.bool x) w = True := rfl
@[go_sem] theorem slI_pointer (p : Option Addr) : SlI b t C d (.pointer p) w = True := rfl
@[go_sem] theorem slI_agg (c : Array Value) : SlI b t C d (.agg c) w = True := rfl
@[go_sem] theorem slI_undef : SlI b t C d undef w = True := rfl
@[go_sem] theorem slI_sliceN (n c : Nat) : SlI b t C d (.slice none n c) w = True := rfl
theorem slI_slice (p : Addr) (n c : Nat) : SlI b t C d (.slice (some p) n c) w = (b ≤ p.block → ∃ cs, C d cs ∧ Blk w p.block t cs) := rfl
end
theorem told_slI (b : Nat) (t : TypeId) (C : Tmp → Array Value → Prop) : ToldI (SlI b t C) where
  mono := fun d v w w' h hx => by
    unfold SlI at *
    split
    · exact fun k => by
        obtain ⟨cs, h1, h2⟩ := h k
        exact ⟨cs, h1, h2.ext hx⟩
    · trivial
  undef := fun _ _ => trivial
theorem told_allI {R : Tmp → Value → World → Prop} {a : Array Value} {w : World} (hu : ∀ d, R d undef w) (h : ∀ v ∈ a.toList, ∀ d, R d v w) (d : Tmp) : R d (a.getD d undef) w := by
  by_cases hd : d < a.size
  · have : a.getD d undef = a[d] := by simp [hd]
    rw [this]
    exact h _ (by simp) d
  · have : a.getD d undef = undef := by simp [hd]
    rw [this]; exact hu d
end Go.Rel

/- A store elsewhere, a store into a block. -/
namespace Go.Proofs.YtcppgbhjbmfldaaGreatDoor
open Go.RowKit Go.Fp Go.Rel
theorem setCell_other2 (w : World) (n i k : Nat) (v : Value) (h : k ≠ n) : (w.setCell ⟨n, i, none⟩ v).heap[k]? = w.heap[k]? := Below.heap_setCell _ _ _ _ h
theorem blk_set2 {w : World} {n i : Nat} {t : TypeId} {cs : Array Value} (v : Value) (h : Blk w n t cs) : Blk (w.setCell ⟨n, i, none⟩ v) n t (cs.setIfInBounds i v) := by
  unfold Blk at *
  simp [World.setCell, Array.getElem?_modify, h]
end Go.Proofs.YtcppgbhjbmfldaaGreatDoor
