/- Regions that draw their order, walked once, each slot's value bearing a word of its own on the world. -/
import Derived.Test.YtcppgbhjbmfldaaDoorZT
import Derived.Deep.Strs
import Derived.Lib.SmallJoins
namespace Go.Rel
open Go.RowKit

/-- a word on a slot's value and a world that no later world takes back -/
structure ToldI (R : Tmp → Value → World → Prop) : Prop where
  mono : ∀ d v w w', R d v w → Ext w w' → R d v w'
  undef : ∀ d w, R d undef w
/-- the word on what an operation yields -/
def AtR (R : Tmp → Value → World → Prop) (dst : Option Tmp) (v : Value) (w : World) : Prop := ∀ d, dst = some d → R d v w
theorem ToldI.at {R : Tmp → Value → World → Prop} (h : ToldI R) (dst : Option Tmp) : Told (AtR R dst) where
  mono := fun v w w' k hx d e => h.mono d v w w' (k d e) hx
  undef := fun w d _ => h.undef d w

section
variable {P : Program} {ops : Array Oper} {md : Region.Mode} {w0 : World} {F : FuncId → Array Value → Value → Prop} {R : Tmp → Value → World → Prop}

/-- the values that an operation takes are told -/
def needsI (ops : Array Oper) (R : Tmp → Value → World → Prop) (o : Oper) (a : Act) (w : World) : Prop := ∀ d ∈ o.looksAt ops, R d (a.tmps.getD d undef) w
/-- what is known ahead of an operation -/
structure StI (R : Tmp → Value → World → Prop) (w0 : World) (a : Act) (Φ : Post) : Prop where
  mono : ∀ w w', Φ w → Ext w w' → Φ w'
  all : ∀ w, Ext w0 w → Φ w → ∀ d, R d (a.tmps.getD d undef) w
  live : ∃ w, Ext w0 w ∧ Φ w
theorem told_putI {w : World} {a : Act} {dst : Option Tmp} {v : Value} (hR : ToldI R) (h : ∀ d, R d (a.tmps.getD d undef) w) (hv : AtR R dst v w) (d : Tmp) : R d ((a.put dst v).tmps.getD d undef) w := by
  by_cases e : dst = some d
  · subst e
    by_cases hd : d < a.tmps.size
    · rw [put_getD_same a d v hd]; exact hv _ rfl
    · have : (a.put (some d) v).tmps.getD d undef = undef := by simp [Act.put, hd]
      rw [this]; exact hR.undef _ _
  · rw [put_getD_other a dst d v e]; exact h d
theorem StI.step {a : Act} {Φ : Post} {D : World → Prop} {s : Sem Next} {dst : Option Tmp} {v : Value} (hR : ToldI R) (h : StI R w0 a Φ) (hl : ∃ w, Ext w0 w ∧ Φ w ∧ MayD P F (AtR R dst) w0 D s v w) :
    StI R w0 (a.put dst v) (fun w => Φ w ∧ MayD P F (AtR R dst) w0 D s v w) where
  mono := fun w w' k x => ⟨h.mono _ _ k.1 x, k.2.mono x⟩
  all := fun w hw k d => told_putI hR (h.all w hw k.1) (k.2.told (hR.at dst)) d
  live := hl
theorem StI.skip {a : Act} {Φ : Post} {dst : Option Tmp} (hR : ToldI R) (h : StI R w0 a Φ) : StI R w0 (a.put dst undef) Φ where
  mono := h.mono
  all := fun w hw k d => told_putI hR (h.all w hw k) (fun d _ => hR.undef d w) d
  live := h.live
theorem StI.need {a : Act} {Φ : Post} (h : StI R w0 a Φ) (o : Oper) {w : World} (hw : Ext w0 w) (k : Φ w) : needsI ops R o a w := fun d _ => h.all w hw k d
theorem StI.may {a : Act} {Φ : Post} {o : Oper} (h : StI R w0 a Φ) (hp : ProgD P F (AtR R o.dst) w0 (needsI ops R o a) (execOp a.eval o)) :
    ∃ v w, Ext w0 w ∧ Φ w ∧ MayD P F (AtR R o.dst) w0 (needsI ops R o a) (execOp a.eval o) v w := by
  obtain ⟨w, hw, hΦ⟩ := h.live
  obtain ⟨v, w', hx, hm⟩ := hp.may hw (h.need o hw hΦ)
  exact ⟨v, w', hw.trans hx, h.mono _ _ hΦ hx, hm⟩

def rOpDI (P : Program) (ops : Array Oper) (F : FuncId → Array Value → Value → Prop) (R : Tmp → Value → World → Prop) (w0 : World) (i : Nat) (K : Act → Post → Prop) (a : Act) (Φ : Post) : Prop :=
  match ops[i]? with
  | none => K a Φ
  | some o =>
    if Region.wanted o (yielded ops a.tmps) then
      ProgD P F (AtR R o.dst) w0 (needsI ops R o a) (execOp a.eval o) ∧ ∀ v, (∃ w, Ext w0 w ∧ Φ w ∧ MayD P F (AtR R o.dst) w0 (needsI ops R o a) (execOp a.eval o) v w) → K (a.put o.dst v) (fun w => Φ w ∧ MayD P F (AtR R o.dst) w0 (needsI ops R o a) (execOp a.eval o) v w)
    else K (a.put o.dst undef) Φ
def wpRelDI (P : Program) (ops : Array Oper) (F : FuncId → Array Value → Value → Prop) (R : Tmp → Value → World → Prop) (w0 : World) (Q : Act → Post → Prop) : List Oper → Act → Post → Prop
  | [], a, Φ => Q a Φ
  | o :: rest, a, Φ =>
    if Region.wanted o (yielded ops a.tmps) then
      ProgD P F (AtR R o.dst) w0 (needsI ops R o a) (execOp a.eval o) ∧ ∀ v, (∃ w, Ext w0 w ∧ Φ w ∧ MayD P F (AtR R o.dst) w0 (needsI ops R o a) (execOp a.eval o) v w) → wpRelDI P ops F R w0 Q rest (a.put o.dst v) (fun w => Φ w ∧ MayD P F (AtR R o.dst) w0 (needsI ops R o a) (execOp a.eval o) v w)
    else wpRelDI P ops F R w0 Q rest (a.put o.dst undef) Φ
def wpAnyDI (P : Program) (md : Region.Mode) (ops : Array Oper) (F : FuncId → Array Value → Value → Prop) (R : Tmp → Value → World → Prop) (w0 : World) (n : Nat) (L : Array Bool → Act → Post → Prop) : Nat → Array Bool → Act → Post → Prop
  | 0, listed, a, Φ => L listed a Φ
  | f + 1, listed, a, Φ => Region.ready md ops listed ≠ [] ∧ ∀ i ∈ Region.ready md ops listed, i < n ∧ rOpDI P ops F R w0 i (wpAnyDI P md ops F R w0 n L f (listed.setIfInBounds i true)) a Φ

/-- the walk, as it is used -/
def wpDI (P : Program) (ops : Array Oper) (F : FuncId → Array Value → Value → Prop) (R : Tmp → Value → World → Prop) (w0 : World) (Q : Act → Prop) : List Oper → Act → Prop
  | [], a => Q a
  | o :: rest, a =>
    if Region.wanted o (yielded ops a.tmps) then
      ProgD P F (AtR R o.dst) w0 (needsI ops R o a) (execOp a.eval o) ∧ ∀ v w, MayD P F (AtR R o.dst) w0 (needsI ops R o a) (execOp a.eval o) v w → wpDI P ops F R w0 Q rest (a.put o.dst v)
    else wpDI P ops F R w0 Q rest (a.put o.dst undef)
end

@[go_sem] theorem atR_some (R : Tmp → Value → World → Prop) (d : Tmp) (v : Value) (w : World) : AtR R (some d) v w = R d v w := by simp [AtR]
/-- of slices made behind b: what they hold goes by the slot -/
def SlI (b : Nat) (t : TypeId) (C : Tmp → Array Value → Prop) (d : Tmp) : Value → World → Prop
  | .slice (some p) _ _, w => b ≤ p.block → ∃ cs, C d cs ∧ Blk w p.block t cs
  | _, _ => True
section
variable (b : Nat) (t : TypeId) (C : Tmp → Array Value → Prop) (d : Tmp) (w : World)
@[go_sem] theorem slI_float (k : FloatKind) (x : Nat) : SlI b t C d (.float k x) w = True := rfl
@[go_sem] theorem slI_int (k : IntKind) (x : Int) : SlI b t C d (.int k x) w = True := rfl
@[go_sem] theorem slI_bool (x : Bool) : SlI b t C d (.bool x) w = True := rfl
@[go_sem] theorem slI_pointer (p : Option Addr) : SlI b t C d (.pointer p) w = True := rfl
@[go_sem] theorem slI_agg (c : Array Value) : SlI b t C d (.agg c) w = True := rfl
@[go_sem] theorem slI_undef : SlI b t C d undef w = True := rfl
@[go_sem] theorem slI_sliceN (n c : Nat) : SlI b t C d (.slice none n c) w = True := rfl
theorem slI_slice (p : Addr) (n c : Nat) : SlI b t C d (.slice (some p) n c) w = (b ≤ p.block → ∃ cs, C d cs ∧ Blk w p.block t cs) := rfl
end
end Go.Rel

/- A store elsewhere, a store into a block. -/
namespace Go.Proofs.YtcppgbhjbmfldaaDoor
open Go.RowKit Go.Fp Go.Rel
theorem setCell_other2 (w : World) (n i k : Nat) (v : Value) (h : k ≠ n) : (w.setCell ⟨n, i, none⟩ v).heap[k]? = w.heap[k]? := Below.heap_setCell _ _ _ _ h
end Go.Proofs.YtcppgbhjbmfldaaDoor

/- Opening the laws' arguments: papers, strips, points of paper. -/
namespace Go.Proofs.YtcppgbhjbmfldaaDoor
open Go.ChangeShapes Go.WideShapes Go.ChangeAt Go.RowKit Go.Joins
set_option maxRecDepth 20000

theorem cellsInt : Tryd.prog.cellsOf 3 = 1 := by kernel_rfl
theorem cellsFl : Tryd.prog.cellsOf 22 = 1 := by kernel_rfl
theorem cellsStrip : Tryd.prog.cellsOf 46 = 4 := by kernel_rfl
section
variable {H : Type} {enc : TypeId × Value → H} {w : World} {base : Nat} {sp : Nat → Bool} {held : Bool}
theorem trod_globe {fuel : Nat} {c0 c1 : Value} {x : DataW H × List MemPlace} (h : DataW.trod enc Tryd.prog w base sp held fuel 24 [c0, c1] = some x) : ∃ a b : Nat, c0 = .float .f64 a ∧ c1 = .float .f64 b ∧ x.2 = [] := by
  obtain ⟨y0, y1, m, rfl, _, h0, h1⟩ := trod_struct2 Tryd.underlying24 h
  simp only [cellsFl, List.drop_zero, List.drop_succ_cons, List.take_succ_cons, List.take_zero] at h0 h1
  obtain ⟨a, e0, k0⟩ := trod_float1 Tryd.underlying22 h0
  obtain ⟨b, e1, k1⟩ := trod_float1 Tryd.underlying22 h1
  simp at e0 e1
  exact ⟨a, b, e0, e1, by simp [k0, k1]⟩
theorem open_strip {r : Reach} {b0 : Nat} {v : Value} {d : DataW H} {ps : List MemPlace} (hval : Value.okWide Tryd.prog w r b0 46 v) (hd : DataW.Trod enc Tryd.prog w base sp held 46 v d ps) :
    ∃ (a f : Nat) (mid : Int) (sc : Nat), v = .agg #[.float .f64 a, .float .f64 f, .int .i64 mid, .float .f64 sc] ∧ ps = [] := by
  obtain ⟨cs, rfl, hsz⟩ := okWide_struct Tryd.underlying46 hval
  obtain ⟨c0, c1, c2, c3, rfl⟩ := array4 (hsz.trans cellsStrip)
  obtain ⟨fuel, hf⟩ := hd
  obtain ⟨y0, y1, y2, m, e, _, h0, h1, h2⟩ := _root_.Go.Deep.trod_struct3 Tryd.underlying46 hf
  simp only [Value.cells, cellsGlobe, cellsInt, cellsFl, List.drop_zero, List.drop_succ_cons, List.take_succ_cons, List.take_zero] at h0 h1 h2
  obtain ⟨a, f, rfl, rfl, k0⟩ := trod_globe h0
  obtain ⟨i, e1, rfl, _⟩ := DataW.trod_int Tryd.underlying3 h1
  obtain ⟨q, e2, k2⟩ := trod_float1 Tryd.underlying22 h2
  simp at e1 e2
  simp only [Prod.mk.injEq] at e
  exact ⟨a, f, i, q, by rw [e1, e2], by rw [e.2, k0, k2]; rfl⟩
end
end Go.Proofs.YtcppgbhjbmfldaaDoor
