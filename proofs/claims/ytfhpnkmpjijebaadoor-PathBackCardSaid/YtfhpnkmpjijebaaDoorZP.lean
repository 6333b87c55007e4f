/- Regions that draw their order and lay two blocks: the two are not one. -/
import Derived.Test.YtfhpnkmpjijebaaDoorZO
namespace Go.Rel
open Go.RowKit

section
variable {P : Program} {ops : Array Oper} {md : Region.Mode} {w0 : World} {F : FuncId → Array Value → Value → Prop}

/-- operation i has been carried out -/
def Went (P : Program) (ops : Array Oper) (i : Nat) (a : Act) (w : World) (a' : Act) (w' : World) : Prop :=
  ∃ o v, ops[i]? = some o ∧ a' = a.put o.dst v ∧ Ext w w' ∧ (o.guard = none → ∀ u w2, (execOp a.eval o).run P w = .ok (.value u) w2 → v = u ∧ w' = w2)

/-- blocks laid by operations p and q -/
structure PairI (p q : Nat) (dp dq : Tmp) (listed : Array Bool) (a : Act) (w : World) : Prop where
  inp : dp < a.tmps.size
  inq : dq < a.tmps.size
  atp : listed.getD p false = true → ∃ n, a.tmps.getD dp undef = .pointer (some ⟨n, 0, none⟩) ∧ n < w.heap.size
  atq : listed.getD q false = true → ∃ n, a.tmps.getD dq undef = .pointer (some ⟨n, 0, none⟩) ∧ n < w.heap.size
  ne : listed.getD p false = true → listed.getD q false = true → a.tmps.getD dp undef ≠ a.tmps.getD dq undef

/-- closed: p lays into dp, q into dq, nobody else writes there -/
def pairB (ops : Array Oper) (p q : Nat) (dp dq : Tmp) : Bool :=
  decide (p ≠ q) && decide (dp ≠ dq) && (List.range ops.size).all fun k => match ops[k]? with
    | some o => (if k = p then o.dst == some dp && o.guard.isNone else o.dst != some dp) && (if k = q then o.dst == some dq && o.guard.isNone else o.dst != some dq)
    | none => false

theorem put_size (a : Act) (d : Option Tmp) (v : Value) : (a.put d v).tmps.size = a.tmps.size := by
  unfold Act.put; split <;> simp
theorem put_getD_same (a : Act) (d : Tmp) (v : Value) (h : d < a.tmps.size) : (a.put (some d) v).tmps.getD d undef = v := by
  simp [Act.put, h]
theorem put_getD_other (a : Act) (d : Option Tmp) (e : Tmp) (v : Value) (h : d ≠ some e) : (a.put d v).tmps.getD e undef = a.tmps.getD e undef := by
  unfold Act.put
  split
  · rename_i k
    have : k ≠ e := fun hk => h (by rw [hk])
    simp [Array.getElem?_setIfInBounds_ne this]
  · rfl

theorem PairI.step {p q : Nat} {dp dq : Tmp} (hB : pairB ops p q dp dq = true)
    (hrp : ∀ o, ops[p]? = some o → ∀ (a : Act) w, ∃ O, (execOp a.eval o).run P w = .ok (.value (.pointer (some ⟨w.heap.size, 0, none⟩))) (w.alloc O))
    (hrq : ∀ o, ops[q]? = some o → ∀ (a : Act) w, ∃ O, (execOp a.eval o).run P w = .ok (.value (.pointer (some ⟨w.heap.size, 0, none⟩))) (w.alloc O))
    (listed : Array Bool) (i : Nat) (a : Act) (w : World) (a' : Act) (w' : World) (h : PairI p q dp dq listed a w) (hst : Went P ops i a w a' w') :
    PairI p q dp dq (listed.setIfInBounds i true) a' w' := by
  obtain ⟨o, v, ho, rfl, hx, hv⟩ := hst
  simp only [pairB, Bool.and_eq_true, decide_eq_true_eq] at hB
  obtain ⟨⟨hpq, hd⟩, hall⟩ := hB
  have hil : i < ops.size := (Array.getElem?_eq_some_iff.1 ho).1
  have hi := List.all_eq_true.1 hall i (List.mem_range.2 hil)
  simp only [ho, Bool.and_eq_true] at hi
  obtain ⟨h1, h2⟩ := hi
  have hsz := hx.size
  by_cases hip : i = p
  · subst hip
    rw [if_pos rfl] at h1
    rw [if_neg hpq] at h2
    simp only [Bool.and_eq_true, beq_iff_eq, Option.isNone_iff_eq_none, bne_iff_ne, ne_eq] at h1 h2
    obtain ⟨O, hrun⟩ := hrp o ho a w
    obtain ⟨rfl, rfl⟩ := hv h1.2 _ _ hrun
    have ep : (a.put o.dst (.pointer (some ⟨w.heap.size, 0, none⟩))).tmps.getD dp undef = .pointer (some ⟨w.heap.size, 0, none⟩) := by rw [h1.1]; exact put_getD_same _ _ _ h.inp
    have eq : (a.put o.dst (.pointer (some ⟨w.heap.size, 0, none⟩))).tmps.getD dq undef = a.tmps.getD dq undef := put_getD_other _ _ _ _ h2
    have hlq : listed.getD q false = true → ∃ n, a.tmps.getD dq undef = .pointer (some ⟨n, 0, none⟩) ∧ n < w.heap.size := h.atq
    refine ⟨by rw [put_size]; exact h.inp, by rw [put_size]; exact h.inq, fun _ => ⟨_, ep, by rw [alloc_size]; omega⟩, fun hq => ?_, fun _ hq => ?_⟩
    · rw [getD_set_ne false hpq] at hq
      obtain ⟨n, e, hn⟩ := hlq hq
      exact ⟨n, by rw [eq, e], by rw [alloc_size]; omega⟩
    · rw [getD_set_ne false hpq] at hq
      obtain ⟨n, e, hn⟩ := hlq hq
      rw [ep, eq, e]
      intro hc
      injection hc with hc; injection hc with hc; injection hc with hc
      omega
  · by_cases hiq : i = q
    · subst hiq
      rw [if_neg hip] at h1
      rw [if_pos rfl] at h2
      simp only [Bool.and_eq_true, beq_iff_eq, Option.isNone_iff_eq_none, bne_iff_ne, ne_eq] at h1 h2
      obtain ⟨O, hrun⟩ := hrq o ho a w
      obtain ⟨rfl, rfl⟩ := hv h2.2 _ _ hrun
      have ep : (a.put o.dst (.pointer (some ⟨w.heap.size, 0, none⟩))).tmps.getD dq undef = .pointer (some ⟨w.heap.size, 0, none⟩) := by rw [h2.1]; exact put_getD_same _ _ _ h.inq
      have eq : (a.put o.dst (.pointer (some ⟨w.heap.size, 0, none⟩))).tmps.getD dp undef = a.tmps.getD dp undef := put_getD_other _ _ _ _ h1
      refine ⟨by rw [put_size]; exact h.inp, by rw [put_size]; exact h.inq, fun hp => ?_, fun _ => ⟨_, ep, by rw [alloc_size]; omega⟩, fun hp _ => ?_⟩
      · rw [getD_set_ne false hip] at hp
        obtain ⟨n, e, hn⟩ := h.atp hp
        exact ⟨n, by rw [eq, e], by rw [alloc_size]; omega⟩
      · rw [getD_set_ne false hip] at hp
        obtain ⟨n, e, hn⟩ := h.atp hp
        rw [ep, eq, e]
        intro hc
        injection hc with hc; injection hc with hc; injection hc with hc
        omega
    · rw [if_neg hip] at h1
      rw [if_neg hiq] at h2
      simp only [bne_iff_ne, ne_eq] at h1 h2
      have ep := put_getD_other a o.dst dp v h1
      have eq := put_getD_other a o.dst dq v h2
      refine ⟨by rw [put_size]; exact h.inp, by rw [put_size]; exact h.inq, fun hp => ?_, fun hq => ?_, fun hp hq => ?_⟩
      · rw [getD_set_ne false hip] at hp
        obtain ⟨n, e, hn⟩ := h.atp hp
        exact ⟨n, by rw [ep, e], by omega⟩
      · rw [getD_set_ne false hiq] at hq
        obtain ⟨n, e, hn⟩ := h.atq hq
        exact ⟨n, by rw [eq, e], by omega⟩
      · rw [getD_set_ne false hip] at hp
        rw [getD_set_ne false hiq] at hq
        rw [ep, eq]; exact h.ne hp hq

end
end Go.Rel

/- Regions that draw their order, walked once, where an operation may lean on what those whose values it takes have made: each value bears a word on the world (R). -/
namespace Go.Rel
open Go.RowKit

/-- a word on a value and a world that no later world takes back -/
structure Told (R : Value → World → Prop) : Prop where
  mono : ∀ v w w', R v w → Ext w w' → R v w'
  undef : ∀ w, R undef w

section
variable {P : Program} {ops : Array Oper} {md : Region.Mode} {w0 : World} {F : FuncId → Array Value → Value → Prop} {R : Value → World → Prop}

/-- the values that an operation takes are told -/
def needs (ops : Array Oper) (R : Value → World → Prop) (o : Oper) (a : Act) (w : World) : Prop := ∀ d ∈ o.looksAt ops, R (a.tmps.getD d undef) w
def ProgD (P : Program) (F : FuncId → Array Value → Value → Prop) (R : Value → World → Prop) (w0 : World) (D : World → Prop) (s : Sem Next) : Prop := ∀ w, Ext w0 w → D w →
  match s.run P w with
  | .ok (.value v) w' => Ext w w' ∧ R v w'
  | .ok .skip w' => Ext w w'
  | .ok (.enter f args) w' => Ext w w' ∧ Calls P f args w' (fun e w'' => ∃ v, e = .returned v ∧ F f args v ∧ R v w'' ∧ Ext w' w'')
  | _ => False
def MayD (P : Program) (F : FuncId → Array Value → Value → Prop) (R : Value → World → Prop) (w0 : World) (D : World → Prop) (s : Sem Next) (v : Value) (w' : World) : Prop := ∃ w, Ext w0 w ∧ D w ∧
  match s.run P w with
  | .ok (.value u) w2 => u = v ∧ R v w2 ∧ Ext w2 w'
  | .ok .skip w2 => undef = v ∧ Ext w2 w'
  | .ok (.enter f args) w2 => F f args v ∧ ∃ w3, R v w3 ∧ Ext w2 w3 ∧ Ext w3 w'
  | _ => False
theorem MayD.mono {D : World → Prop} {s : Sem Next} {v : Value} {w w' : World} (h : MayD P F R w0 D s v w) (k : Ext w w') : MayD P F R w0 D s v w' := by
  obtain ⟨w1, h1, hD, h2⟩ := h
  refine ⟨w1, h1, hD, ?_⟩
  split at h2
  · exact ⟨h2.1, h2.2.1, h2.2.2.trans k⟩
  · exact ⟨h2.1, h2.2.trans k⟩
  · obtain ⟨hF, w3, hR, x, y⟩ := h2
    exact ⟨hF, w3, hR, x, y.trans k⟩
  · exact h2
theorem MayD.told {D : World → Prop} {s : Sem Next} {v : Value} {w : World} (hR : Told R) (h : MayD P F R w0 D s v w) : R v w := by
  obtain ⟨w1, h1, hD, h2⟩ := h
  split at h2
  · exact hR.mono _ _ _ h2.2.1 h2.2.2
  · rw [← h2.1]; exact hR.undef _
  · obtain ⟨hF, w3, hv, x, y⟩ := h2
    exact hR.mono _ _ _ hv y
  · exact h2.elim
/-- in a world in which it goes through it yields something -/
theorem ProgD.may {D : World → Prop} {s : Sem Next} (h : ProgD P F R w0 D s) {w : World} (hw : Ext w0 w) (hD : D w) : ∃ v w', Ext w w' ∧ MayD P F R w0 D s v w' := by
  have h0 := h w hw hD
  split at h0
  · rename_i v w' hr; exact ⟨v, w', h0.1, w, hw, hD, by rw [hr]; exact ⟨rfl, h0.2, Ext.refl _⟩⟩
  · rename_i w' hr; exact ⟨undef, w', h0, w, hw, hD, by rw [hr]; exact ⟨rfl, Ext.refl _⟩⟩
  · rename_i f args w' hr
    obtain ⟨hx0, hc⟩ := h0
    obtain ⟨e, w'', _, ⟨v, _, hF, hRv, hx⟩, _⟩ := hc []
    exact ⟨v, w'', hx0.trans hx, w, hw, hD, by rw [hr]; exact ⟨hF, w'', hRv, hx, Ext.refl _⟩⟩
  · exact h0.elim

/-- what is known ahead of an operation -/
structure St (R : Value → World → Prop) (w0 : World) (a : Act) (Φ : Post) : Prop where
  mono : ∀ w w', Φ w → Ext w w' → Φ w'
  all : ∀ w, Ext w0 w → Φ w → ∀ d, R (a.tmps.getD d undef) w
  live : ∃ w, Ext w0 w ∧ Φ w
theorem told_put {w : World} {a : Act} {dst : Option Tmp} {v : Value} (hR : Told R) (h : ∀ d, R (a.tmps.getD d undef) w) (hv : R v w) (d : Tmp) : R ((a.put dst v).tmps.getD d undef) w := by
  by_cases e : dst = some d
  · subst e
    by_cases hd : d < a.tmps.size
    · rw [put_getD_same a d v hd]; exact hv
    · have : (a.put (some d) v).tmps.getD d undef = undef := by simp [Act.put, hd]
      rw [this]; exact hR.undef _
  · rw [put_getD_other a dst d v e]; exact h d
theorem St.step {a : Act} {Φ : Post} {D : World → Prop} {s : Sem Next} {dst : Option Tmp} {v : Value} (hR : Told R) (h : St R w0 a Φ) (hl : ∃ w, Ext w0 w ∧ Φ w ∧ MayD P F R w0 D s v w) :
    St R w0 (a.put dst v) (fun w => Φ w ∧ MayD P F R w0 D s v w) where
  mono := fun _w _w' k x => ⟨h.mono _ _ k.1 x, k.2.mono x⟩
  all := fun w hw k d => told_put hR (h.all w hw k.1) (k.2.told hR) d
  live := hl
theorem St.skip {a : Act} {Φ : Post} {dst : Option Tmp} (hR : Told R) (h : St R w0 a Φ) : St R w0 (a.put dst undef) Φ where
  mono := h.mono
  all := fun w hw k d => told_put hR (h.all w hw k) (hR.undef w) d
  live := h.live
theorem St.need {a : Act} {Φ : Post} (h : St R w0 a Φ) (o : Oper) {w : World} (hw : Ext w0 w) (k : Φ w) : needs ops R o a w := fun d _ => h.all w hw k d
theorem St.may {a : Act} {Φ : Post} {o : Oper} (h : St R w0 a Φ) (hp : ProgD P F R w0 (needs ops R o a) (execOp a.eval o)) :
    ∃ v w, Ext w0 w ∧ Φ w ∧ MayD P F R w0 (needs ops R o a) (execOp a.eval o) v w := by
  obtain ⟨w, hw, hΦ⟩ := h.live
  obtain ⟨v, w', hx, hm⟩ := hp.may hw (h.need o hw hΦ)
  exact ⟨v, w', hw.trans hx, h.mono _ _ hΦ hx, hm⟩

def rOpD (P : Program) (ops : Array Oper) (F : FuncId → Array Value → Value → Prop) (R : Value → World → Prop) (w0 : World) (i : Nat) (K : Act → Post → Prop) (a : Act) (Φ : Post) : Prop :=
  match ops[i]? with
  | none => K a Φ
  | some o =>
    if Region.wanted o (yielded ops a.tmps) then
      ProgD P F R w0 (needs ops R o a) (execOp a.eval o) ∧ ∀ v, (∃ w, Ext w0 w ∧ Φ w ∧ MayD P F R w0 (needs ops R o a) (execOp a.eval o) v w) → K (a.put o.dst v) (fun w => Φ w ∧ MayD P F R w0 (needs ops R o a) (execOp a.eval o) v w)
    else K (a.put o.dst undef) Φ
def wpRelD (P : Program) (ops : Array Oper) (F : FuncId → Array Value → Value → Prop) (R : Value → World → Prop) (w0 : World) (Q : Act → Post → Prop) : List Oper → Act → Post → Prop
  | [], a, Φ => Q a Φ
  | o :: rest, a, Φ =>
    if Region.wanted o (yielded ops a.tmps) then
      ProgD P F R w0 (needs ops R o a) (execOp a.eval o) ∧ ∀ v, (∃ w, Ext w0 w ∧ Φ w ∧ MayD P F R w0 (needs ops R o a) (execOp a.eval o) v w) → wpRelD P ops F R w0 Q rest (a.put o.dst v) (fun w => Φ w ∧ MayD P F R w0 (needs ops R o a) (execOp a.eval o) v w)
    else wpRelD P ops F R w0 Q rest (a.put o.dst undef) Φ
def wpAnyD (P : Program) (md : Region.Mode) (ops : Array Oper) (F : FuncId → Array Value → Value → Prop) (R : Value → World → Prop) (w0 : World) (n : Nat) (L : Array Bool → Act → Post → Prop) : Nat → Array Bool → Act → Post → Prop
  | 0, listed, a, Φ => L listed a Φ
  | f + 1, listed, a, Φ => Region.ready md ops listed ≠ [] ∧ ∀ i ∈ Region.ready md ops listed, i < n ∧ rOpD P ops F R w0 i (wpAnyD P md ops F R w0 n L f (listed.setIfInBounds i true)) a Φ

/-- What is asked of one operation, carried out in a world that extends the region's and in which the values that it takes are told. -/
def relUponD (P : Program) (F : FuncId → Array Value → Value → Prop) (R : Value → World → Prop) (w : World) (K : Value → Prop) : Result Next → Prop
  | .ok (.value v) w' => Ext w w' ∧ R v w' ∧ K v
  | .ok .skip w' => Ext w w' ∧ K undef
  | .ok (.enter f args) w' => Ext w w' ∧ Calls P f args w' (fun e w'' => ∃ v, e = .returned v ∧ F f args v ∧ R v w'' ∧ Ext w' w'') ∧ ∀ v, F f args v → K v
  | _ => False
@[go_sem] theorem relUponD_value (w w' : World) (K : Value → Prop) (v : Value) : relUponD P F R w K (.ok (.value v) w') = (Ext w w' ∧ R v w' ∧ K v) := rfl
@[go_sem] theorem relUponD_skip (w w' : World) (K : Value → Prop) : relUponD P F R w K (.ok .skip w') = (Ext w w' ∧ K undef) := rfl

theorem progD_of_upon {D : World → Prop} {s : Sem Next} {K : Value → Prop} (h : ∀ w, Ext w0 w → D w → relUponD P F R w K (s.run P w)) : ProgD P F R w0 D s ∧ ∀ v w, MayD P F R w0 D s v w → K v := by
  refine ⟨fun w hw hD => ?_, fun v w' hv => ?_⟩
  · have h1 := h w hw hD
    unfold relUponD at h1
    split at h1
    · exact ⟨h1.1, h1.2.1⟩
    · exact h1.1
    · exact ⟨h1.1, h1.2.1⟩
    · exact h1.elim
  · obtain ⟨w, hw, hD, h2⟩ := hv
    have h1 := h w hw hD
    unfold relUponD at h1
    split at h1
    · rename_i u w2 hr; rw [hr] at h2; rw [← h2.1]; exact h1.2.2
    · rename_i w2 hr; rw [hr] at h2; rw [← h2.1]; exact h1.2
    · rename_i f args w2 hr; rw [hr] at h2; exact h1.2.2 v h2.1
    · exact h1.elim

/-- the walk, as it is used -/
def wpD (P : Program) (ops : Array Oper) (F : FuncId → Array Value → Value → Prop) (R : Value → World → Prop) (w0 : World) (Q : Act → Prop) : List Oper → Act → Prop
  | [], a => Q a
  | o :: rest, a =>
    if Region.wanted o (yielded ops a.tmps) then
      ProgD P F R w0 (needs ops R o a) (execOp a.eval o) ∧ ∀ v w, MayD P F R w0 (needs ops R o a) (execOp a.eval o) v w → wpD P ops F R w0 Q rest (a.put o.dst v)
    else wpD P ops F R w0 Q rest (a.put o.dst undef)
end

/-- of slices made behind b: what they hold goes by their length -/
def SlR (b : Nat) (t : TypeId) (T : Nat → Array Value) : Value → World → Prop
  | .slice (some p) n _, w => b ≤ p.block → Blk w p.block t (T n)
  | _, _ => True
section
variable (b : Nat) (t : TypeId) (T : Nat → Array Value) (w : World)
@[go_sem] theorem slR_float (k : FloatKind) (x : Nat) : SlR b t T (.float k x) w = True := rfl
@[go_sem] theorem slR_int (k : IntKind) (x : Int) : SlR b t T (.int k x) w = True := rfl
@[go_sem] theorem slR_bool (x : Bool) : SlR b t T (.bool x) w = True := rfl
@[go_sem] theorem slR_pointer (p : Option Addr) : SlR b t T (.pointer p) w = True := rfl
@[go_sem] theorem slR_agg (c : Array Value) : SlR b t T (.agg c) w = True := rfl
@[go_sem] theorem slR_func (f : Fn) (x y : Array Value) : SlR b t T (.func f x y) w = True := rfl
@[go_sem] theorem slR_complex (k : FloatKind) (x y : Nat) : SlR b t T (.complex k x y) w = True := rfl
@[go_sem] theorem slR_undef : SlR b t T undef w = True := rfl
@[go_sem] theorem slR_nil : SlR b t T .nilIface w = True := rfl
@[go_sem] theorem slR_tuple (c : Array Value) : SlR b t T (.tuple c) w = True := rfl
theorem slR_slice (p : Addr) (n c : Nat) : SlR b t T (.slice (some p) n c) w = (b ≤ p.block → Blk w p.block t (T n)) := rfl
end
end Go.Rel

/- The numbers of a series: what they are. -/
namespace Go.Proofs.YtfhpnkmpjijebaaDoor
open Go.RowKit Go.Fp Go.Rel
set_option maxRecDepth 20000

abbrev cA1 : List Nat := [4602678819172646912, 13827552055903212885, 4599301119452119040, 4597374579611521661]
abbrev cA2 : List Nat := [4598550519514223957, 13826951575952896819, 4600639689341365271]
abbrev cA3 : List Nat := [4598250279539065924, 13828173981566040240]
abbrev cA4 : Nat := 4599207406156301484
abbrev cB1 : List Nat := [4602678819172646912, 13827552055903212885, 4600614669343435435, 13791923578851126295]
abbrev cB2 : List Nat := [4581662020911584597, 4589468260265693457, 13822510526320350913]
abbrev cB3 : List Nat := [4585264900613480994, 13809880788793911511]
abbrev cB4 : Nat := 4583515287901101742
def tabA (n : Nat) : List Nat := if n = 4 then cA1 else if n = 3 then cA2 else cA3
def tabB (n : Nat) : List Nat := if n = 4 then cB1 else if n = 3 then cB2 else cB3
def SpPoly (N : Nat) (T : Nat → List Nat) (args : Array Value) (v : Value) : Prop := ∃ (g n c : Nat) (p : Value), args = #[.slice (some ⟨g, 0, none⟩) n c, p] ∧ isFl (polyS N (T n) (n - 1)) v
/-- the third flattening, and its powers -/
def nS (f : Nat) : Nat := fdiv (can f) (fsub (can 4611686018427387904) (can f))
def n2S (f : Nat) : Nat := fmul (nS f) (nS f)
def n3S (f : Nat) : Nat := fmul (n2S f) (nS f)
def n4S (f : Nat) : Nat := fmul (n2S f) (n2S f)
/-- the radius of the series, and both its rows -/
def radS (a f : Nat) : Nat := fmul (fdiv (can a) (fadd (can 4607182418800017408) (nS f))) (fadd (fadd (can 4607182418800017408) (fdiv (n2S f) (can 4616189618054758400))) (fdiv (n4S f) (can 4634204016564240384)))
def rowS (T : Nat → List Nat) (c f : Nat) : Nat → Nat
  | 0 => fmul (nS f) (polyS (nS f) (T 4) 3)
  | 1 => fmul (n2S f) (polyS (nS f) (T 3) 2)
  | 2 => fmul (n3S f) (polyS (nS f) (T 2) 1)
  | _ => fmul (n4S f) (can c)
def SerR (a f : Nat) (w : World) (e : Ending) (w' : World) : Prop := ∃ r y0 y1 y2 y3 x0 x1 x2 x3, e = .returned (.tuple #[.float .f64 r, .agg #[.float .f64 y0, .float .f64 y1, .float .f64 y2, .float .f64 y3], .agg #[.float .f64 x0, .float .f64 x1, .float .f64 x2, .float .f64 x3], .nilIface]) ∧ can r = radS a f ∧
  (can y0 = rowS tabA cA4 f 0 ∧ can y1 = rowS tabA cA4 f 1 ∧ can y2 = rowS tabA cA4 f 2 ∧ can y3 = rowS tabA cA4 f 3) ∧ (can x0 = rowS tabB cB4 f 0 ∧ can x1 = rowS tabB cB4 f 1 ∧ can x2 = rowS tabB cB4 f 2 ∧ can x3 = rowS tabB cB4 f 3) ∧ Ext w w'

end Go.Proofs.YtfhpnkmpjijebaaDoor
