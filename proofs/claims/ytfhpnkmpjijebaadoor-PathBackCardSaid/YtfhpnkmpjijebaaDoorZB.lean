/- Regions that draw their order, walked once, where an operation's value need not be one and the same in every order. -/
import Derived.Test.YtfhpnkmpjijebaaDoorZA
import Derived.Still
import Derived.StillTail
import Derived.Below
import Derived.Deep.Draws
import Derived.WalkKit
import Derived.WalkSpells
import Derived.WalkLawsBesides
import Derived.Deep.QuietTactic
import Derived.BigQuiet
import Derived.Lib.Hide
import Derived.Test.YtfhpnkmpjijebaaDoorProg
import Derived.LaidEql
import Derived.Stop.Asserts
import Derived.RowKitTokens
import Derived.Test.YtfhpnkmpjijebaaDoorRows
import Derived.Stop.LaidErr
import Derived.LaidHandle
import Derived.LaidMore
import Derived.ProofKit
import Derived.OpenShut
import Derived.Lib.SmallJoins
import Derived.Carry
import Derived.Laws.Cover2
namespace Go.Rel
open Go.RowKit

/-- all that was there is as it was -/
def Ext (w w' : World) : Prop := Below w.heap.size w w'
theorem Ext.refl (w : World) : Ext w w := Below.refl _ _
theorem Ext.trans {a b c : World} (h : Ext a b) (k : Ext b c) : Ext a c :=
  Below.trans h (Below.mono k h.size)

theorem Ext.drewN {a b : World} (h : Ext a b) (n : Nat) : Ext a (b.drewN n) := ⟨h.os, h.tape, h.output, h.size, h.block⟩
theorem Ext.drew {a b : World} (h : Ext a b) : Ext a b.drew := Below.drew h
theorem Ext.alloc {a b : World} (h : Ext a b) (o : Obj) : Ext a (b.alloc o) := Below.alloc h h.size o
theorem Ext.setCell {a b : World} (h : Ext a b) {p : Addr} (hp : a.heap.size ≤ p.block) (u : Value) : Ext a (b.setCell p u) := Below.setCell h hp u
theorem Ext.cell {a b : World} (h : Ext a b) (k o : Nat) (hk : k < a.heap.size) : b.cell? ⟨k, o, none⟩ = a.cell? ⟨k, o, none⟩ := Below.cell h (p := ⟨k, o, none⟩) hk
theorem Ext.frozen {a b : World} (h : Ext a b) (k o : Nat) (hk : k < a.heap.size) : b.frozen? ⟨k, o, none⟩ = a.frozen? ⟨k, o, none⟩ := Below.frozen h (p := ⟨k, o, none⟩) hk

/-- a call hands back this value; all that was there is as it was -/
def ExR (v : Value) (w : World) (e : Ending) (w' : World) : Prop := e = .returned v ∧ Ext w w'

section
variable {P : Program} {ops : Array Oper} {md : Region.Mode} {w0 : World} {F : FuncId → Array Value → Value → Prop}

/-- the operation goes through in every world that extends w0 -/
def Prog (P : Program) (F : FuncId → Array Value → Value → Prop) (w0 : World) (s : Sem Next) : Prop := ∀ w, Ext w0 w →
  match s.run P w with
  | .ok (.value _) w' => Ext w w'
  | .ok .skip w' => Ext w w'
  | .ok (.enter f args) w' => Ext w w' ∧ Calls P f args w' (fun e w'' => ∃ v, e = .returned v ∧ F f args v ∧ Ext w' w'')
  | _ => False

/-- v is what it can yield in such a world; w' comes behind that -/
def MayW (P : Program) (F : FuncId → Array Value → Value → Prop) (w0 : World) (s : Sem Next) (v : Value) (w' : World) : Prop := ∃ w, Ext w0 w ∧
  match s.run P w with
  | .ok (.value u) w2 => u = v ∧ Ext w2 w'
  | .ok .skip w2 => undef = v ∧ Ext w2 w'
  | .ok (.enter f args) w2 => F f args v ∧ Ext w2 w'
  | _ => False

theorem MayW.mono {s : Sem Next} {v : Value} {w w' : World} (h : MayW P F w0 s v w) (k : Ext w w') : MayW P F w0 s v w' := by
  obtain ⟨w1, h1, h2⟩ := h
  refine ⟨w1, h1, ?_⟩
  split at h2
  · exact ⟨h2.1, h2.2.trans k⟩
  · exact ⟨h2.1, h2.2.trans k⟩
  · exact ⟨h2.1, h2.2.trans k⟩
  · exact h2

def May (P : Program) (F : FuncId → Array Value → Value → Prop) (w0 : World) (s : Sem Next) (v : Value) : Prop := ∃ w', MayW P F w0 s v w'

theorem Prog.may {s : Sem Next} (h : Prog P F w0 s) : ∃ v, May P F w0 s v := by
  have h0 := h w0 (Ext.refl _)
  split at h0
  · rename_i v w' hr; exact ⟨v, w', w0, Ext.refl _, by rw [hr]; exact ⟨rfl, Ext.refl _⟩⟩
  · rename_i w' hr; exact ⟨undef, w', w0, Ext.refl _, by rw [hr]; exact ⟨rfl, Ext.refl _⟩⟩
  · rename_i f args w' hr
    obtain ⟨_, hc⟩ := h0
    obtain ⟨e, w'', _, ⟨v, _, hF, hx⟩, _⟩ := hc []
    exact ⟨v, w'', w0, Ext.refl _, by rw [hr]; exact ⟨hF, hx⟩⟩
  · exact h0.elim

abbrev Post := World → Prop

def rOp (P : Program) (ops : Array Oper) (F : FuncId → Array Value → Value → Prop) (w0 : World) (i : Nat) (K : Act → Post → Prop) (a : Act) (Φ : Post) : Prop :=
  match ops[i]? with
  | none => K a Φ
  | some o =>
    if Region.wanted o (yielded ops a.tmps) then
      Prog P F w0 (execOp a.eval o) ∧ ∀ v, May P F w0 (execOp a.eval o) v → K (a.put o.dst v) (fun w => Φ w ∧ MayW P F w0 (execOp a.eval o) v w)
    else K (a.put o.dst undef) Φ

/-- the walk in the text's order -/
def wpRel (P : Program) (ops : Array Oper) (F : FuncId → Array Value → Value → Prop) (w0 : World) (Q : Act → Post → Prop) : List Oper → Act → Post → Prop
  | [], a, Φ => Q a Φ
  | o :: rest, a, Φ =>
    if Region.wanted o (yielded ops a.tmps) then
      Prog P F w0 (execOp a.eval o) ∧ ∀ v, May P F w0 (execOp a.eval o) v → wpRel P ops F w0 Q rest (a.put o.dst v) (fun w => Φ w ∧ MayW P F w0 (execOp a.eval o) v w)
    else wpRel P ops F w0 Q rest (a.put o.dst undef) Φ

/-- a run of n operations in whatever order, then L -/
def wpAnyR (P : Program) (md : Region.Mode) (ops : Array Oper) (F : FuncId → Array Value → Value → Prop) (w0 : World) (n : Nat) (L : Array Bool → Act → Post → Prop) : Nat → Array Bool → Act → Post → Prop
  | 0, listed, a, Φ => L listed a Φ
  | f + 1, listed, a, Φ => Region.ready md ops listed ≠ [] ∧ ∀ i ∈ Region.ready md ops listed, i < n ∧ rOp P ops F w0 i (wpAnyR P md ops F w0 n L f (listed.setIfInBounds i true)) a Φ

theorem rOp_mono {i : Nat} {K K' : Act → Post → Prop} {a : Act} {Φ Φ' : Post} (hΦ : ∀ w, Φ' w → Φ w) (h : ∀ a Φ Φ', (∀ w, Φ' w → Φ w) → K a Φ → K' a Φ')
    (hh : rOp P ops F w0 i K a Φ) : rOp P ops F w0 i K' a Φ' := by
  unfold rOp at *
  split
  · rename_i ho; simp only [ho] at hh; exact h _ _ _ hΦ hh
  · rename_i o ho
    simp only [ho] at hh
    split
    · rename_i hw
      simp only [hw, if_true] at hh
      exact ⟨hh.1, fun v hv => h _ _ _ (fun w k => ⟨hΦ w k.1, k.2⟩) (hh.2 v hv)⟩
    · rename_i hw
      simp only [hw] at hh
      exact h _ _ _ hΦ hh

theorem wpAnyR_mono {n : Nat} {L : Array Bool → Act → Post → Prop} (hL : ∀ l a Φ Φ', (∀ w, Φ' w → Φ w) → L l a Φ → L l a Φ') :
    ∀ (f : Nat) (listed : Array Bool) (a : Act) (Φ Φ' : Post), (∀ w, Φ' w → Φ w) → wpAnyR P md ops F w0 n L f listed a Φ → wpAnyR P md ops F w0 n L f listed a Φ'
  | 0, listed, a, Φ, Φ', hΦ, h => hL listed a Φ Φ' hΦ h
  | f + 1, _, _, _, _, hΦ, h => ⟨h.1, fun i hi => ⟨(h.2 i hi).1, rOp_mono hΦ (fun a Φ Φ' k hh => wpAnyR_mono hL f _ a Φ Φ' k hh) (h.2 i hi).2⟩⟩

theorem wpOp_of_rOp {i : Nat} {a : Act} {K : Act → Post → Prop} {K' : Act → World → Prop} {Q' : Exit → Act → World → Prop} {w : World} {Φ : Post}
    (hw : Ext w0 w) (hΦ : Φ w) (hm : ∀ w w', Φ w → Ext w w' → Φ w')
    (h : ∀ a w' Φ', Ext w0 w' → Φ' w' → (∀ w w', Φ' w → Ext w w' → Φ' w') → K a Φ' → K' a w') (hh : rOp P ops F w0 i K a Φ) : wpOp P ops Q' i K' a w := by
  unfold rOp at hh
  unfold wpOp
  split
  · rename_i ho; simp only [ho] at hh; exact h _ _ _ hw hΦ hm hh
  · rename_i o ho
    simp only [ho] at hh
    split
    · rename_i hwd
      simp only [hwd, if_true] at hh
      obtain ⟨hp, hk⟩ := hh
      refine .inl ?_
      have hp1 := hp w hw
      have key : ∀ v w', May P F w0 (execOp a.eval o) v → Ext w w' → MayW P F w0 (execOp a.eval o) v w' → K' (a.put o.dst v) w' := fun v w' hc hx hC =>
        h _ _ (fun w => Φ w ∧ MayW P F w0 (execOp a.eval o) v w) (hw.trans hx) ⟨hm _ _ hΦ hx, hC⟩ (fun w w' k x => ⟨hm _ _ k.1 x, k.2.mono x⟩) (hk v hc)
      unfold Oper.wp
      cases hr : (execOp a.eval o).run P w with
      | ok x w' =>
        simp only [hr] at hp1
        cases x <;> simp only [Oper.upon] <;> first | (exact hp1.elim) | skip
        case value v =>
          have hC : MayW P F w0 (execOp a.eval o) v w' := ⟨w, hw, by rw [hr]; exact ⟨rfl, Ext.refl _⟩⟩
          exact key v w' ⟨w', hC⟩ hp1 hC
        case skip =>
          have hC : MayW P F w0 (execOp a.eval o) undef w' := ⟨w, hw, by rw [hr]; exact ⟨rfl, Ext.refl _⟩⟩
          exact key undef w' ⟨w', hC⟩ hp1 hC
        case enter f args =>
          refine hp1.2.mono ?_
          rintro e w'' ⟨v, rfl, hF, hx⟩
          have hC : MayW P F w0 (execOp a.eval o) v w'' := ⟨w, hw, by rw [hr]; exact ⟨hF, hx⟩⟩
          exact key v w'' ⟨w'', hC⟩ (hp1.1.trans hx) hC
      | halt x w' => simp only [hr] at hp1
    · rename_i hwd
      simp only [hwd] at hh
      exact h _ _ _ hw hΦ hm hh

theorem wpAny_of_rel {n g : Nat} {L : Array Bool → Act → Post → Prop} {Q' : Exit → Act → World → Prop}
    (hL : ∀ listed a w Φ, Ext w0 w → Φ w → L listed a Φ → wpAny P md ops Q' g listed a w) :
    ∀ (f : Nat) (listed : Array Bool) (a : Act) (w : World) (Φ : Post), Ext w0 w → Φ w → (∀ w w', Φ w → Ext w w' → Φ w') → wpAnyR P md ops F w0 n L f listed a Φ → wpAny P md ops Q' (f + g) listed a w
  | 0, listed, a, w, Φ, hw, hΦ, _, h => by rw [Nat.zero_add]; exact hL _ _ _ _ hw hΦ h
  | f + 1, listed, a, w, Φ, hw, hΦ, hm, h => by
    rw [show f + 1 + g = (f + g) + 1 by omega]
    exact ⟨fun h0 => absurd h0 h.1, fun i hi => wpOp_of_rOp hw hΦ hm (fun a' w' Φ' hw' hΦ' hm' h' => wpAny_of_rel hL f _ a' w' Φ' hw' hΦ' hm' h') (h.2 i hi).2⟩

/-- what an operation comes to in state a: the Sem term, or nothing -/
theorem rOp_first {n : Nat} {i : Nat} {oi : Oper} {L : Array Bool → Act → Post → Prop} (hi : ops[i]? = some oi) (hsel : ∀ (j : Nat) (o : Oper) cs b, ops[j]? = some o → o.op ≠ .select cs b)
    (hL : ∀ l a Φ Φ', (∀ w, Φ' w → Φ w) → L l a Φ → L l a Φ')
    (hready : ∀ listed, HeadInv md ops n listed → i ∈ Region.ready md ops listed → ∀ j ∈ Region.ready md ops listed, j < n)
    (hdone : ∀ listed a Φ, L listed a Φ → ∀ j ∈ Region.ready md ops listed, n ≤ j) :
    ∀ (f : Nat) (listed : Array Bool) (a : Act) (Φ : Post), HeadInv md ops n listed →
      (∀ j oj, ops[j]? = some oj → j ≠ i → listed.getD j true = false → (∀ e ∈ oj.after, Region.binds md e = true → e.on ≠ i) → oi.apart ops oj = true) →
      i ∈ Region.ready md ops listed → rOp P ops F w0 i (wpAnyR P md ops F w0 n L f (listed.setIfInBounds i true)) a Φ → wpAnyR P md ops F w0 n L (f + 1) listed a Φ := by
  intro f
  induction f with
  | zero =>
    intro listed a Φ inv _ hr H
    refine ⟨fun h => (by rw [h] at hr; cases hr), fun j hj => ⟨hready listed inv hr j hj, ?_⟩⟩
    by_cases hji : j = i
    · subst hji; exact H
    · exfalso
      have hjn := hready listed inv hr j hj
      have hex : ∃ a' Φ', wpAnyR P md ops F w0 n L 0 (listed.setIfInBounds i true) a' Φ' := by
        unfold rOp at H
        simp only [hi] at H
        split at H
        · obtain ⟨v, hv⟩ := H.1.may; exact ⟨_, _, H.2 v hv⟩
        · exact ⟨_, _, H⟩
      obtain ⟨a', Φ', h'⟩ := hex
      have := hdone _ _ _ h' j (ready_mono hj hji)
      omega
  | succ f ih =>
    intro listed a Φ inv hfree hr H
    have hun := (mem_ready.1 hr).1
    refine ⟨fun h => (by rw [h] at hr; cases hr), fun j hj => ⟨hready listed inv hr j hj, ?_⟩⟩
    by_cases hji : j = i
    · subst hji; exact H
    · have hjn := hready listed inv hr j hj
      obtain ⟨hjun, oj, hoj, hall⟩ := mem_ready.1 hj
      have hnot : ∀ e ∈ oj.after, Region.binds md e = true → e.on ≠ i := fun e he hb heq => by
        have h1 := hall e he hb
        rw [heq, getD_both hun] at h1
        cases h1
      have hap := hfree j oj hoj hji hjun hnot
      obtain ⟨h1, h2, h3⟩ := Oper.apart_spec hap
      have hfree' : ∀ k ok, ops[k]? = some ok → k ≠ i → (listed.setIfInBounds j true).getD k true = false →
          (∀ e ∈ ok.after, Region.binds md e = true → e.on ≠ i) → oi.apart ops ok = true := fun k ok hk hki hun' hno => by
        refine hfree k ok hk hki ?_ hno
        by_cases hjk : j = k
        · subst hjk; exact hjun
        · rw [getD_set_ne true hjk] at hun'; exact hun'
      have inv' := inv.set hj hjn
      have hr' := ready_mono hr (Ne.symm hji)
      -- the second one, seen behind the first
      have hjv : ∀ (v : Value) (Ψ : Post), wpAnyR P md ops F w0 n L (f + 1) (listed.setIfInBounds i true) (a.put oi.dst v) Ψ →
          rOp P ops F w0 j (wpAnyR P md ops F w0 n L f ((listed.setIfInBounds i true).setIfInBounds j true)) (a.put oi.dst v) Ψ := fun v Ψ h => (h.2 j (ready_mono hj hji)).2
      have ex_j : ∀ v, execOp (a.put oi.dst v).eval oj = execOp a.eval oj := fun v => execOp_put oj (fun cs b => hsel j oj cs b hoj) a oi.dst v h1
      have wa_j : ∀ v, Region.wanted oj (yielded ops (a.put oi.dst v).tmps) = Region.wanted oj (yielded ops a.tmps) := fun v => wanted_put oj a oi.dst v h1
      have ex_i : ∀ u, execOp (a.put oj.dst u).eval oi = execOp a.eval oi := fun u => execOp_put oi (fun cs b => hsel i oi cs b hi) a oj.dst u h3
      have wa_i : ∀ u, Region.wanted oi (yielded ops (a.put oj.dst u).tmps) = Region.wanted oi (yielded ops a.tmps) := fun u => wanted_put oi a oj.dst u h3
      unfold rOp at H
      simp only [hi] at H
      unfold rOp
      simp only [hoj]
      by_cases hwi : Region.wanted oi (yielded ops a.tmps) = true
      · simp only [hwi, if_true] at H
        obtain ⟨hpi, hki⟩ := H
        obtain ⟨v0, hv0⟩ := hpi.may
        have hj0 := hjv v0 _ (hki v0 hv0)
        unfold rOp at hj0
        simp only [hoj, wa_j, ex_j] at hj0
        by_cases hwj : Region.wanted oj (yielded ops a.tmps) = true
        · simp only [hwj, if_true] at hj0 ⊢
          refine ⟨hj0.1, fun u hu => ?_⟩
          refine ih (listed.setIfInBounds j true) (a.put oj.dst u) _ inv' hfree' hr' ?_
          unfold rOp
          simp only [hi, wa_i, ex_i, hwi, if_true]
          refine ⟨hpi, fun v hv => ?_⟩
          have hjv' := hjv v _ (hki v hv)
          unfold rOp at hjv'
          simp only [hoj, wa_j, ex_j, hwj, if_true] at hjv'
          have := hjv'.2 u hu
          rw [Array.setIfInBounds_comm _ _ hji]
          rw [← Act.put_comm a v u h2]
          exact wpAnyR_mono hL f _ _ _ _ (fun w k => ⟨⟨k.1.1, k.2⟩, k.1.2⟩) this
        · simp only [hwj] at hj0 ⊢
          refine ih (listed.setIfInBounds j true) (a.put oj.dst undef) _ inv' hfree' hr' ?_
          unfold rOp
          simp only [hi, wa_i, ex_i, hwi, if_true]
          refine ⟨hpi, fun v hv => ?_⟩
          have hjv' := hjv v _ (hki v hv)
          unfold rOp at hjv'
          simp only [hoj, wa_j, hwj] at hjv'
          rw [Array.setIfInBounds_comm _ _ hji]
          rw [← Act.put_comm a v undef h2]
          exact hjv'
      · simp only [hwi] at H
        have hj0 := hjv undef _ H
        unfold rOp at hj0
        simp only [hoj, wa_j, ex_j] at hj0
        by_cases hwj : Region.wanted oj (yielded ops a.tmps) = true
        · simp only [hwj, if_true] at hj0 ⊢
          refine ⟨hj0.1, fun u hu => ?_⟩
          refine ih (listed.setIfInBounds j true) (a.put oj.dst u) _ inv' hfree' hr' ?_
          unfold rOp
          simp only [hi, wa_i, hwi]
          have := hj0.2 u hu
          rw [Array.setIfInBounds_comm _ _ hji]
          rw [← Act.put_comm a undef u h2]
          exact this
        · simp only [hwj] at hj0 ⊢
          refine ih (listed.setIfInBounds j true) (a.put oj.dst undef) _ inv' hfree' hr' ?_
          unfold rOp
          simp only [hi, wa_i, hwi]
          rw [Array.setIfInBounds_comm _ _ hji]
          rw [← Act.put_comm a undef undef h2]
          exact hj0

theorem wpRel_lex {n g : Nat} {Q : Act → Post → Prop} (hQ : ∀ a Φ Φ', (∀ w, Φ' w → Φ w) → Q a Φ → Q a Φ') (hsel : Region.noSelect ops = true)
    (hready : ∀ listed i, i < n → HeadInv md ops n listed → i ∈ Region.ready md ops listed → ∀ j ∈ Region.ready md ops listed, j < n) :
    ∀ (l : List Oper) (k : Nat) (listed : Array Bool) (a : Act) (Φ : Post), (∀ j, j < l.length → l[j]? = ops[k + j]?) → k + l.length = n → HeadInv md ops n listed →
    Region.lexHead md ops g l.length k listed = true → wpRel P ops F w0 Q l a Φ →
    wpAnyR P md ops F w0 n (fun listed' a' Φ' => Region.seqB md ops g n listed' = true ∧ Q a' Φ') l.length listed a Φ
  | [], k, listed, a, Φ, _, hk, _, hB, h => by
    have : k = n := by simpa using hk
    subst this
    exact ⟨by simpa [Region.lexHead] using hB, h⟩
  | o :: l, k, listed, a, Φ, hl, hk, inv, hB, h => by
    have h0 : ops[k]? = some o := by simpa using (hl 0 (by simp)).symm
    simp only [List.length_cons, Region.lexHead, Bool.and_eq_true] at hB
    obtain ⟨⟨hr, hf⟩, hB'⟩ := hB
    have hkn : k < n := by simp only [List.length_cons] at hk; omega
    have hr' : k ∈ Region.ready md ops listed := by simpa using hr
    refine rOp_first h0 (Region.noSelect_spec hsel) (fun l a Φ Φ' k h => ⟨h.1, hQ _ _ _ k h.2⟩) (fun listed inv hi => hready listed k hkn inv hi) (fun listed' a' Φ' hL => seqB_ready hL.1) l.length listed a Φ inv
      (Region.free_spec h0 hf) hr' ?_
    have rest : ∀ a' Φ', wpRel P ops F w0 Q l a' Φ' → wpAnyR P md ops F w0 n (fun listed' a' Φ' => Region.seqB md ops g n listed' = true ∧ Q a' Φ') l.length (listed.setIfInBounds k true) a' Φ' := fun a' Φ' h' =>
      wpRel_lex hQ hsel hready l (k + 1) _ a' Φ' (fun j hj => by have := hl (j + 1) (by simp; omega); simpa [Nat.add_assoc, Nat.add_comm 1 j] using this) (by simp only [List.length_cons] at hk; omega) (inv.set hr' hkn) hB' h'
    unfold rOp
    simp only [h0]
    unfold wpRel at h
    split
    · rename_i hw; simp only [hw, if_true] at h; exact ⟨h.1, fun v hv => rest _ _ (h.2 v hv)⟩
    · rename_i hw; simp only [hw] at h; exact rest _ _ h

/-- asked of the region, closed -/
def relB (md : Region.Mode) (ops : Array Oper) (n : Nat) : Bool :=
  Region.noSelect ops && (n == ops.size || (decide (n < ops.size) && Region.sinkB md ops n && Region.chainB md ops n)) && Region.lexHead md ops (ops.size - n) n 0 (Array.replicate ops.size false)

theorem ready_lt {listed : Array Bool} {j : Nat} (hj : j ∈ Region.ready md ops listed) : j < ops.size := by
  obtain ⟨_, oj, hoj, _⟩ := mem_ready.1 hj
  exact (Array.getElem?_eq_some_iff.1 hoj).1

/-- THE FIRST n OPERATIONS IN WHATEVER ORDER, walked once in the text's; what is left of them stands in that order. -/
theorem wp_region_rel {id : Nat} {Q : Exit → Act → World → Prop} {a : Act} {w : World} {l : List Oper} (n : Nat) (F : FuncId → Array Value → Value → Prop) (hm : P.follows .mixedOrders = true) (hB : relB .any l.toArray n = true)
    (h : wpRel P l.toArray F w.drew (fun a' Φ => ∀ w', Ext w.drew w' → Φ w' → wpList P l.toArray Q (l.drop n) a' w') (l.take n) a (fun _ => True)) : (Code.region id l.toArray true).wp P Q a w := by
  simp only [relB, Bool.and_eq_true, Bool.or_eq_true, decide_eq_true_eq, beq_iff_eq] at hB
  obtain ⟨⟨hsel, hn⟩, hlex⟩ := hB
  have hn' : n ≤ l.length := by rcases hn with hn | hn <;> simp at hn <;> omega
  have htl : (l.take n).length = n := by simp; omega
  have hdl : (l.drop n).length = l.toArray.size - n := by simp
  have inv0 : HeadInv .any l.toArray n (Array.replicate l.toArray.size false) :=
    ⟨by simp, fun j oj _ hl => (by rw [getD_replicate_false] at hl; cases hl), fun t _ ht => getD_in (by simpa using ht) (getD_replicate_false _ _)⟩
  have hready : ∀ listed i, i < n → HeadInv .any l.toArray n listed → i ∈ Region.ready .any l.toArray listed → ∀ j ∈ Region.ready .any l.toArray listed, j < n := by
    intro listed i hi inv hir j hj
    rcases hn with hn | ⟨⟨hn, hs⟩, hc⟩
    · rw [hn]; exact ready_lt hj
    · rcases Nat.lt_or_ge j n with h | h
      · exact h
      · exact absurd hj (tail_waits hs hc hn inv _ i rfl hi (mem_ready.1 hir).1 j h)
  have H := wpRel_lex (md := .any) (g := l.toArray.size - n) (n := n) (P := P) (F := F) (w0 := w.drew) (Q := fun a' Φ => ∀ w', Ext w.drew w' → Φ w' → wpList P l.toArray Q (l.drop n) a' w')
    (fun a Φ Φ' k h w' hx hΦ => h w' hx (k _ hΦ)) hsel hready (l.take n) 0 _ a (fun _ => True) (fun j hj => by
    have hj' : j < n := by rw [htl] at hj; exact hj
    simp [hj']) (by simpa using htl) inv0 (by rw [htl]; exact hlex) h
  refine wp_region_any hm ?_
  have := wpAny_of_rel (Q' := Q) (g := l.toArray.size - n) (fun listed a' w' Φ hx hΦ hL => by
    have := wpAny_of_seq (md := .any) (Q' := Q) (l.drop n) n listed a' w' (fun j => by simp [List.getElem?_drop]) (by rw [hdl]; exact hL.1) (hL.2 w' hx hΦ)
    rwa [hdl] at this) _ _ _ w.drew _ (Ext.refl _) trivial (fun _ _ h _ => h) H
  have hsz : n + (l.toArray.size - n) = l.toArray.size := by
    have : l.toArray.size = l.length := by simp
    omega
  rw [htl, hsz] at this
  exact this

/-- What is asked of one operation, carried out in a world that extends the region's. -/
def relUpon (P : Program) (F : FuncId → Array Value → Value → Prop) (w : World) (K : Value → Prop) : Result Next → Prop
  | .ok (.value v) w' => Ext w w' ∧ K v
  | .ok .skip w' => Ext w w' ∧ K undef
  | .ok (.enter f args) w' => Ext w w' ∧ Calls P f args w' (fun e w'' => ∃ v, e = .returned v ∧ F f args v ∧ Ext w' w'') ∧ ∀ v, F f args v → K v
  | _ => False

@[go_sem] theorem Ext_self (w : World) : Ext w w = True := eq_true (Ext.refl w)
@[go_sem] theorem relUpon_value (w w' : World) (K : Value → Prop) (v : Value) : relUpon P F w K (.ok (.value v) w') = (Ext w w' ∧ K v) := rfl
@[go_sem] theorem relUpon_skip (w w' : World) (K : Value → Prop) : relUpon P F w K (.ok .skip w') = (Ext w w' ∧ K undef) := rfl

theorem prog_of_upon {s : Sem Next} {K : Value → Prop} (h : ∀ w, Ext w0 w → relUpon P F w K (s.run P w)) : Prog P F w0 s ∧ ∀ v, May P F w0 s v → K v := by
  refine ⟨fun w hw => ?_, fun v hv => ?_⟩
  · have h1 := h w hw
    unfold relUpon at h1
    split at h1
    · exact h1.1
    · exact h1.1
    · exact ⟨h1.1, h1.2.1⟩
    · exact h1.elim
  · obtain ⟨w', w, hw, h2⟩ := hv
    have h1 := h w hw
    unfold relUpon at h1
    split at h1
    · rename_i u w2 hr; rw [hr] at h2; rw [← h2.1]; exact h1.2
    · rename_i w2 hr; rw [hr] at h2; rw [← h2.1]; exact h1.2
    · rename_i f args w2 hr; rw [hr] at h2; exact h1.2.2 v h2.1
    · exact h1.elim

/-- the walk, as it is used: what is known of the worlds that come is kept only where it is asked for -/
def wpR (P : Program) (ops : Array Oper) (F : FuncId → Array Value → Value → Prop) (w0 : World) (Q : Act → Post → Prop) : List Oper → Act → Post → Prop
  | [], a, Φ => Q a Φ
  | o :: rest, a, Φ =>
    if Region.wanted o (yielded ops a.tmps) then
      Prog P F w0 (execOp a.eval o) ∧ ∃ G : Value → Post, (∀ v w, MayW P F w0 (execOp a.eval o) v w → G v w) ∧
        ∀ v, May P F w0 (execOp a.eval o) v → wpR P ops F w0 Q rest (a.put o.dst v) (fun w => Φ w ∧ G v w)
    else wpR P ops F w0 Q rest (a.put o.dst undef) Φ

theorem wpRel_of_wpR {Q : Act → Post → Prop} (hQ : ∀ a Φ Φ', (∀ w, Φ' w → Φ w) → Q a Φ → Q a Φ') : ∀ (l : List Oper) (a : Act) (Φ Φ' : Post), (∀ w, Φ' w → Φ w) → wpR P ops F w0 Q l a Φ → wpRel P ops F w0 Q l a Φ'
  | [], a, Φ, Φ', hΦ, h => hQ a Φ Φ' hΦ h
  | o :: l, a, Φ, Φ', hΦ, h => by
    unfold wpR at h
    unfold wpRel
    split
    · rename_i hw
      simp only [hw, if_true] at h
      obtain ⟨hp, G, hG, hk⟩ := h
      exact ⟨hp, fun v hv => wpRel_of_wpR hQ l _ _ _ (fun w k => ⟨hΦ w k.1, hG v w k.2⟩) (hk v hv)⟩
    · rename_i hw
      simp only [hw] at h
      exact wpRel_of_wpR hQ l _ _ _ hΦ h

theorem post_true (Φ : Post) : (fun w => Φ w ∧ True) = Φ := funext fun _w => propext ⟨fun h => h.1, fun h => ⟨h, trivial⟩⟩

/-- one operation whose guard says yes -/
theorem wpR_want {Q : Act → Post → Prop} {a : Act} {o : Oper} {rest : List Oper} {Φ : Post} (hg : Region.wanted o (yielded ops a.tmps) = true)
    (h : ∀ w, Ext w0 w → ∀ K : Act → Prop, (∀ a, wpR P ops F w0 Q rest a Φ → K a) → relUpon P F w (fun v => K (a.put o.dst v)) ((execOp a.eval o).run P w)) :
    wpR P ops F w0 Q (o :: rest) a Φ := by
  unfold wpR
  rw [if_pos hg]
  have := prog_of_upon (K := fun v => wpR P ops F w0 Q rest (a.put o.dst v) Φ) (fun w hw => h w hw (fun a => wpR P ops F w0 Q rest a Φ) (fun a k => k))
  exact ⟨this.1, fun _ _ => True, fun _ _ _ => trivial, fun v hv => by rw [post_true]; exact this.2 v hv⟩
/-- one operation without a guard -/
theorem wpR_op {Q : Act → Post → Prop} {a : Act} {o : Oper} {rest : List Oper} {Φ : Post} (hg : o.guard = none)
    (h : ∀ w, Ext w0 w → ∀ K : Act → Prop, (∀ a, wpR P ops F w0 Q rest a Φ → K a) → relUpon P F w (fun v => K (a.put o.dst v)) ((execOp a.eval o).run P w)) :
    wpR P ops F w0 Q (o :: rest) a Φ := wpR_want (by simp [Region.wanted, hg]) h
theorem wpR_nil {Q : Act → Post → Prop} {a : Act} {Φ : Post} (h : Q a Φ) : wpR P ops F w0 Q [] a Φ := h

/-- block n holds these cells, none of them frozen -/
def Blk (w : World) (n : Nat) (t : TypeId) (cells : Array Value) : Prop := w.heap[n]? = some (.cells cells t (0, 0))
theorem Blk.lt {w : World} {n : Nat} {t : TypeId} {cs : Array Value} (h : Blk w n t cs) : n < w.heap.size := by
  unfold Blk at h
  exact (Array.getElem?_eq_some_iff.1 h).1
theorem Blk.ext {w w' : World} {n : Nat} {t : TypeId} {cs : Array Value} (h : Blk w n t cs) (hx : Ext w w') : Blk w' n t cs := by
  have hl := h.lt
  unfold Blk at *
  rw [hx.block n hl]; exact h
theorem Blk.cell {w : World} {n : Nat} {t : TypeId} {cs : Array Value} (h : Blk w n t cs) (i : Nat) : w.cell? ⟨n, i, none⟩ = cs[i]? := by
  unfold Blk at h
  simp [World.cell?, h]
theorem Blk.frozen {w : World} {n : Nat} {t : TypeId} {cs : Array Value} (h : Blk w n t cs) (i : Nat) : w.frozen? ⟨n, i, none⟩ = false := by
  unfold Blk at h
  simp [World.frozen?, h]

theorem Blk.new (w : World) (cs : Array Value) (t : TypeId) : Blk (w.alloc (.cells cs t)) w.heap.size t cs := by
  unfold Blk
  show (w.heap.push _)[w.heap.size]? = _
  simp
theorem Blk.other {w w' : World} {g n : Nat} {t : TypeId} {cs : Array Value} (h : Blk w n t cs) (ho : ∀ n, n ≠ g → w'.heap[n]? = w.heap[n]?) (hn : n ≠ g) : Blk w' n t cs := by
  unfold Blk at *
  rw [ho n hn]; exact h
theorem Blk.drewN {w : World} {n : Nat} {t : TypeId} {cs : Array Value} (h : Blk w n t cs) (k : Nat) : Blk (w.drewN k) n t cs := h
theorem Blk.drew {w : World} {n : Nat} {t : TypeId} {cs : Array Value} (h : Blk w n t cs) : Blk w.drew n t cs := h
theorem alloc_size (w : World) (o : Obj) : (w.alloc o).heap.size = w.heap.size + 1 := by
  show (w.heap.push _).size = _
  simp
theorem Ext.of_drew {w w' : World} (h : Ext w.drew w') : Ext w w' := ⟨h.os, h.tape, h.output, h.size, h.block⟩
theorem Ext.of_drewN {w w' : World} {n : Nat} (h : Ext (w.drewN n) w') : Ext w w' := ⟨h.os, h.tape, h.output, h.size, h.block⟩
/-- what is known behind a call, where the caller had laid one block, two .. -/
theorem ext1 {w w' : World} {c1 : Array Value} {t1 : TypeId} (h : Ext (w.alloc (.cells c1 t1)) w') : Blk w' w.heap.size t1 c1 ∧ Ext w w' :=
  ⟨(Blk.new w c1 t1).ext h, ((Ext.refl w).alloc _).trans h⟩
theorem ext2 {w w' : World} {c1 c2 : Array Value} {t1 t2 : TypeId} (h : Ext ((w.alloc (.cells c1 t1)).alloc (.cells c2 t2)) w') : Blk w' w.heap.size t1 c1 ∧ Blk w' (w.heap.size + 1) t2 c2 ∧ Ext w w' := by
  obtain ⟨h2, hx⟩ := ext1 h
  rw [alloc_size] at h2
  obtain ⟨h1, hy⟩ := ext1 hx
  exact ⟨h1, h2, hy⟩
theorem ext3 {w w' : World} {c1 c2 c3 : Array Value} {t1 t2 t3 : TypeId} (h : Ext (((w.alloc (.cells c1 t1)).alloc (.cells c2 t2)).alloc (.cells c3 t3)) w') : Blk w' w.heap.size t1 c1 ∧ Blk w' (w.heap.size + 1) t2 c2 ∧ Blk w' (w.heap.size + 1 + 1) t3 c3 ∧ Ext w w' := by
  obtain ⟨h3, hx⟩ := ext1 h
  rw [alloc_size, alloc_size] at h3
  obtain ⟨h1, h2, hy⟩ := ext2 hx
  exact ⟨h1, h2, h3, hy⟩

/-- a new block: it lies from the region's own beginning on, and holds its noughts in the end -/
theorem wpR_alloc {Q : Act → Post → Prop} {a : Act} {o : Oper} {rest : List Oper} {Φ : Post} {t : TypeId} {zs : Array Value} (hg : o.guard = none)
    (hr : ∀ w, (execOp a.eval o).run P w = .ok (.value (.pointer (some ⟨w.heap.size, 0, none⟩))) (w.alloc (.cells zs t)))
    (h : ∀ n, w0.heap.size ≤ n → ∀ K : Act → Prop, (∀ a, wpR P ops F w0 Q rest a (fun w => Φ w ∧ Blk w n t zs) → K a) → K (a.put o.dst (.pointer (some ⟨n, 0, none⟩)))) :
    wpR P ops F w0 Q (o :: rest) a Φ := by
  replace h : ∀ n, w0.heap.size ≤ n → wpR P ops F w0 Q rest (a.put o.dst (.pointer (some ⟨n, 0, none⟩))) (fun w => Φ w ∧ Blk w n t zs) := fun n hn => h n hn _ (fun _ k => k)
  unfold wpR
  rw [if_pos (by simp [Region.wanted, hg])]
  refine ⟨fun w hw => ?_, fun v w => ∀ n, v = .pointer (some ⟨n, 0, none⟩) → Blk w n t zs, fun v w' hm n hn => ?_, fun v hv => ?_⟩
  · rw [hr w]; exact (Ext.refl w).alloc _
  · obtain ⟨w, _, hm⟩ := hm
    rw [hr w] at hm
    obtain ⟨e, hx⟩ := hm
    rw [hn] at e
    cases e
    refine Blk.ext (w := w.alloc (.cells zs t)) ?_ hx
    unfold Blk
    show (w.heap.push _)[w.heap.size]? = _
    simp
  · obtain ⟨w', w, hw, hm⟩ := hv
    rw [hr w] at hm
    obtain ⟨e, _⟩ := hm
    subst e
    have := h w.heap.size hw.size
    refine cast ?_ this
    congr 1
    funext w
    refine propext ⟨fun k => ⟨k.1, fun n hn => by cases hn; exact k.2⟩, fun k => ⟨k.1, k.2 _ rfl⟩⟩

/-- THE WHOLE REGION in whatever order. -/
theorem wp_region_all {id : Nat} {Q : Exit → Act → World → Prop} {a : Act} {w : World} {l : List Oper} (F : FuncId → Array Value → Value → Prop) (hm : P.follows .mixedOrders = true) (hB : relB .any l.toArray l.length = true)
    (h : wpR P l.toArray F w.drew (fun a' Φ => ∀ w', Ext w.drew w' → Φ w' → Q .normal a' w') l a (fun _ => True)) : (Code.region id l.toArray true).wp P Q a w := by
  refine wp_region_rel l.length F hm hB ?_
  rw [List.take_length, List.drop_length]
  exact wpRel_of_wpR (fun a Φ Φ' k h w' hx hΦ => h w' hx (k _ hΦ)) _ _ _ _ (fun _ k => k) h
/-- ITS FIRST n OPERATIONS so, the others in the text's order. -/
theorem wp_region_head {id : Nat} {Q : Exit → Act → World → Prop} {a : Act} {w : World} {l : List Oper} (n : Nat) (F : FuncId → Array Value → Value → Prop) (hm : P.follows .mixedOrders = true) (hB : relB .any l.toArray n = true)
    (h : wpR P l.toArray F w.drew (fun a' Φ => ∀ w', Ext w.drew w' → Φ w' → wpList P l.toArray Q (l.drop n) a' w') (l.take n) a (fun _ => True)) : (Code.region id l.toArray true).wp P Q a w :=
  wp_region_rel n F hm hB (wpRel_of_wpR (fun _a _Φ _Φ' k h w' hx hΦ => h w' hx (k _ hΦ)) _ _ _ _ (fun _ k => k) h)

theorem setRow_other (w : World) (g : Nat) (cs : Array Value) (k : Nat) (h : k ≠ g) : (w.setRow g cs).heap[k]? = w.heap[k]? := by
  simp only [World.setRow, Array.getElem?_modify]
  rw [if_neg (by omega)]

/-- a row of cells stored into a block of one's own: behind it the world is known by that block and by what else was there -/
theorem wpList_own {ops : Array Oper} {rest : List Oper} {o : Oper} {a : Act} {w : World} {Q : Exit → Act → World → Prop} (hgd : o.guard = none) (ty : TypeId) (x y : Operand) (ho : o.op = .store ty x y)
    (g : Nat) (cells : Array Value) (hx : a.eval x = .pointer (some ⟨g, 0, none⟩)) (hy : a.eval y = .agg cells)
    (t : TypeId) (old : Array Value) (hg : Blk w g t old) (hi : (P.info? ty).map (·.size) = some cells.size)
    (hold : old.size = cells.size) (h1 : cells.all (·.oneCell') = true)
    (h : ∀ w', Blk w' g t cells → (∀ b, Ext b w → b.heap.size ≤ g → Ext b w') → (∀ n, n ≠ g → w'.heap[n]? = w.heap[n]?) → wpList P ops Q rest (a.put o.dst undef) w') : wpList P ops Q (o :: rest) a w := by
  refine wpList_store_row hgd ty x y ho g cells hx hy t old hg hi hold h1 (h _ ?_ ?_ ?_)
  · exact setRow_heap w g old cells t (0, 0) hg
  · intro b hb hbg
    refine ⟨hb.os, hb.tape, hb.output, ?_, fun k hk => ?_⟩
    · rw [show (w.setRow g cells).heap.size = w.heap.size from by simp [World.setRow]]; exact hb.size
    · rw [setRow_other w g cells k (by omega)]; exact hb.block k hk
  · intro n hn
    exact setRow_other w g cells n hn
end
end Go.Rel

/- What the walks lean on: stores of floats, the operations on floats, steps of a region that draws its order. -/
namespace Go.Fp
open Go.RowKit Go.Rel

section
variable {P : Program} {w : World}
@[go_sem] theorem run_store_float (a : Addr) (m : Mode) (k : FloatKind) (b : Nat) : (store a (.float k b) m).run P w = stored P w a (.float k b) m := run_store P w a _ m rfl
@[go_sem] theorem run_store_complex (a : Addr) (m : Mode) (k : FloatKind) (b c : Nat) : (store a (.complex k b c) m).run P w = stored P w a (.complex k b c) m := run_store P w a _ m rfl
end

@[go_sem] theorem alloc_drewN (w : World) (n : Nat) (o : Obj) : (w.drewN n).alloc o = (w.alloc o).drewN n := rfl
@[go_sem] theorem setCell_drewN (w : World) (n : Nat) (a : Addr) (v : Value) : (w.drewN n).setCell a v = (w.setCell a v).drewN n := rfl
@[go_sem] theorem unary_neg_float (k : FloatKind) (b : Nat) : Op.unary .neg (.float k b) = pure (.float k (Op.negFloat k b)) := rfl

/-- a call hands back this float, up to which NaN it is; all that was there is as it was -/
def FlR (E : Nat) (w : World) (e : Ending) (w' : World) : Prop := ∃ r, e = .returned (.float .f64 r) ∧ can r = E ∧ Ext w w'

/-- + - * / on words, by name -/
def fbin : BinOp → Nat → Nat → Nat
  | .add => fadd
  | .sub => fsub
  | .mul => fmul
  | _ => fdiv
def isArith : BinOp → Bool
  | .add | .sub | .mul | .quo => true
  | _ => false

theorem run_fl {P : Program} (w : World) {op : BinOp} (h : isArith op = true) (x y : Nat) (t : TypeId) :
    ∃ r n, (binOp op t (.float .f64 x) (.float .f64 y)).run P w = .ok (.float .f64 r) (w.drewN n) ∧ can r = fbin op (can x) (can y) := by
  cases op <;> first | (cases h; done) | skip
  · exact run_fadd w x y t
  · exact run_fsub w x y t
  · exact run_fmul w x y t
  · exact run_fdiv w x y t

theorem fin_of {x r : Nat} (h : can r = fbin .sub (can x) (can x)) : finP (can x) = (D.order r 0 == some .eq) := by
  have h0 : can 0 = 0 := can_of_not (by decide +kernel)
  have h1 : fsub (can x) (can x) = can r := h.symm
  unfold finP feq
  rw [h1]
  have := order_can r 0
  rw [h0] at this
  rw [this]

/-- one operation on floats in a walk: some word comes, told but for which NaN it is; perhaps a draw -/
theorem upon_fl {P : Program} {o : Oper} {a : Act} {K : Act → World → Prop} {Q : Exit → Act → World → Prop} {W : World} {t : TypeId} {op : BinOp} {x y : Nat} (hop : isArith op = true)
    (h : ∀ r n, can r = fbin op (can x) (can y) → o.upon P a K Q (.ok (.value (.float .f64 r)) (W.drewN n))) :
    o.upon P a K Q (((binOp op t (.float .f64 x) (.float .f64 y)).run P W).andThen fun v w' => .ok (.value v) w') := by
  obtain ⟨r, n, e, hr⟩ := run_fl (P := P) W hop x y t
  rw [e]
  exact h r n hr

/-- one operation on floats in a region that draws its order -/
theorem rel_fl {P : Program} {F : FuncId → Array Value → Value → Prop} {W : World} {K : Value → Prop} {t : TypeId} {op : BinOp} {x y : Nat} (hop : isArith op = true)
    (h : ∀ r, can r = fbin op (can x) (can y) → K (.float .f64 r)) : relUpon P F W K (((binOp op t (.float .f64 x) (.float .f64 y)).run P W).andThen fun v w' => .ok (.value v) w') := by
  obtain ⟨r, n, e, hr⟩ := run_fl (P := P) W hop x y t
  rw [e]
  exact ⟨(Ext.refl _).drewN _, h r hr⟩
/-- a call in such a region -/
theorem rel_call {P : Program} {F : FuncId → Array Value → Value → Prop} {W : World} {K : Value → Prop} {f : FuncId} {args : Array Value} {R : Value → Prop}
    (hc : Calls P f args W (fun e w' => ∃ v, e = .returned v ∧ R v ∧ Ext W w')) (hF : ∀ v, R v ↔ F f args v) (h : ∀ v, R v → K v) : relUpon P F W K (.ok (.enter f args) W) :=
  ⟨Ext.refl _, hc.mono fun _ _ ⟨v, he, hR, hx⟩ => ⟨v, he, (hF v).1 hR, hx⟩, fun v hv => h v ((hF v).2 hv)⟩

/-- the values that a contract tells -/
def isFl (E : Nat) (v : Value) : Prop := ∃ r, v = .float .f64 r ∧ can r = E
theorem FlR.call {P : Program} {f : FuncId} {args : Array Value} {E : Nat} {W : World} (h : Calls P f args W (FlR E W)) : Calls P f args W (fun e w' => ∃ v, e = .returned v ∧ isFl E v ∧ Ext W w') :=
  h.mono fun _ _ ⟨r, he, hr, hx⟩ => ⟨_, he, ⟨r, rfl, hr⟩, hx⟩
theorem ExR.call {P : Program} {f : FuncId} {args : Array Value} {v : Value} {W : World} (h : Calls P f args W (ExR v W)) : Calls P f args W (fun e w' => ∃ u, e = .returned u ∧ u = v ∧ Ext W w') :=
  h.mono fun _ _ ⟨he, hx⟩ => ⟨_, he, rfl, hx⟩

def SpTri (f : Nat → Nat → Nat → Nat) (args : Array Value) (v : Value) : Prop := ∃ x y z : Nat, args = #[.float .f64 x, .float .f64 y, .float .f64 z] ∧ isFl (f (can x) (can y) (can z)) v
theorem spTri_iff (f : Nat → Nat → Nat → Nat) (x y z : Nat) (v : Value) : SpTri f #[.float .f64 x, .float .f64 y, .float .f64 z] v ↔ isFl (f (can x) (can y) (can z)) v := by
  unfold SpTri
  exact ⟨fun ⟨_, _, _, h, k⟩ => by simp at h; obtain ⟨rfl, rfl, rfl⟩ := h; exact k, fun h => ⟨_, _, _, rfl, h⟩⟩
def SpOne (f : Nat → Nat) (args : Array Value) (v : Value) : Prop := ∃ x : Nat, args = #[.float .f64 x] ∧ isFl (f (can x)) v
theorem spOne_iff (f : Nat → Nat) (x : Nat) (v : Value) : SpOne f #[.float .f64 x] v ↔ isFl (f (can x)) v := by
  unfold SpOne
  exact ⟨fun ⟨_, h, k⟩ => by simp at h; obtain rfl := h; exact k, fun h => ⟨_, rfl, h⟩⟩

/-- a function without a body, whose entry is known -/
def Entry (P : Program) (f : FuncId) (e : Array Value → Sem Value) : Prop := ∀ args w, (callFunc f args).run P w = ((e args).run P w).andThen fun v w' => .ok (.value v) w'

theorem upon_sqrt {P : Program} {o : Oper} {a : Act} {K : Act → World → Prop} {Q : Exit → Act → World → Prop} {W : World} {f : FuncId} {x : Nat} (he : Entry P f Extern.MathSqrt.sqrt)
    (h : ∀ r n, can r = fsqrt (can x) → o.upon P a K Q (.ok (.value (.float .f64 r)) (W.drewN n))) : o.upon P a K Q ((callFunc f #[.float .f64 x]).run P W) := by
  rw [he]
  have e : Extern.MathSqrt.sqrt #[.float .f64 x] = (do match D.sqrt x with | some r => pure (.float .f64 r) | none => pure (.float .f64 (← choose (.nanBits .f64 x x)))) := rfl
  rw [e, fsqrt_can] at *
  unfold fsqrt at h
  cases hs : D.sqrt x with
  | some r => rw [hs] at h; exact h r 0 (can_of_not (sqrt_nan hs))
  | none => rw [hs] at h; exact h _ 1 (can_of_nan (isNan_drawn _ _ _))

theorem abs_bits (x : Nat) : (bits .andNot .u64 (x : Int) 9223372036854775808).toNat = x % 2 ^ 63 := by
  show (IntKind.u64.wrap ((BitVec.ofInt 64 (x : Int) &&& ~~~BitVec.ofInt 64 9223372036854775808 : BitVec 64).toNat : Int)).toNat = x % 2 ^ 63
  have h : (BitVec.ofInt 64 (x : Int) &&& ~~~BitVec.ofInt 64 9223372036854775808) = (BitVec.ofNat 64 (x % 2 ^ 63)) := by
    apply BitVec.eq_of_getElem_eq
    intro i hi
    have hm : ∀ i, i < 64 → (BitVec.ofInt 64 9223372036854775808).getLsbD i = decide (i = 63) := by decide
    have hmi := hm i hi
    rw [BitVec.getLsbD_eq_getElem hi] at hmi
    rw [BitVec.getElem_and, BitVec.getElem_not, hmi]
    rw [← BitVec.getLsbD_eq_getElem, ← BitVec.getLsbD_eq_getElem]
    rw [BitVec.ofInt_natCast, BitVec.getLsbD_ofNat, BitVec.getLsbD_ofNat, Nat.testBit_mod_two_pow]
    by_cases h63 : i = 63
    · subst h63; simp
    · simp [h63, hi]; omega
  rw [h, BitVec.toNat_ofNat, IntKind.wrap_u64]
  omega

end Go.Fp

/- The sentinels of package api: what a world holds of them; errors.Is and errors.As at them. -/
namespace Go.Proofs.YtfhpnkmpjijebaaDoor
open Go.RowKit Go.Fp Go.Rel Go.Extern.Stop Go.Stop Go.Extern
set_option maxRecDepth 20000

/-- the error value of the sentinel whose object lies at a -/
abbrev errV (a : Addr) : Value := .iface 77 (.pointer (some a))

/-- THE SENTINELS: the variable g, of those in gs, holds a pointer to an object of its own. -/
structure Errs (gs : List Nat) (A : Nat → Addr) (w : World) : Prop where
  cell : ∀ g ∈ gs, w.cell? ⟨g, 0, none⟩ = some (errV (A g))
  blk : ∀ g ∈ gs, ∃ c t, w.heap[(A g).block]? = some (.cells c t (0, 0))
  inj : ∀ g ∈ gs, ∀ h ∈ gs, A g = A h → g = h
/-- errors' own variable: the type 'error' -/
def ErrT (w : World) : Prop := w.cell? ⟨9000, 0, none⟩ = some (.iface 9001 (.agg #[.pointer (some ⟨4, 32, none⟩)]))

theorem heap_lt {w : World} {n : Nat} {o : Obj} (h : w.heap[n]? = some o) : n < w.heap.size := by
  rcases Nat.lt_or_ge n w.heap.size with h' | h'
  · exact h'
  · rw [Array.getElem?_eq_none h'] at h; cases h
theorem cell_lt {w : World} {n o : Nat} {v : Value} (h : w.cell? ⟨n, o, none⟩ = some v) : n < w.heap.size := by
  rcases Nat.lt_or_ge n w.heap.size with h' | h'
  · exact h'
  · simp [World.cell?, Array.getElem?_eq_none h'] at h
theorem Errs.ext {gs : List Nat} {A : Nat → Addr} {w w' : World} (h : Errs gs A w) (hx : Ext w w') : Errs gs A w' where
  cell g hg := by rw [hx.cell g 0 (cell_lt (h.cell g hg))]; exact h.cell g hg
  blk g hg := by
    obtain ⟨c, t, e⟩ := h.blk g hg
    exact ⟨c, t, by rw [hx.block _ (heap_lt e)]; exact e⟩
  inj := h.inj
theorem ErrT.ext {w w' : World} (h : ErrT w) (hx : Ext w w') : ErrT w' := by
  unfold ErrT at h ⊢
  rw [hx.cell _ 0 (cell_lt h)]; exact h

end Go.Proofs.YtfhpnkmpjijebaaDoor

/- What a row's list of variables gives a walk: the sentinels (each an object of its own), errors' own variable; a start that meets the list. -/
namespace Go.Proofs.YtfhpnkmpjijebaaDoor
open Go.RowKit Go.ChangeShapes Go.Rel
set_option maxRecDepth 20000

theorem own : ownKnob Tryd.prog.godebug = none := by kernel_rfl
/-- a sentinel's datum -/
abbrev errD (text : List UInt8) : DataW Unit := .iface "*errors.errorString" (.ptr (.agg [.lit (.string text)]))
abbrev sents (L : List (Nat × String × List UInt8)) : List (String × DataW Unit) := L.map fun x => (x.2.1, errD x.2.2)
def Rows1 (W : World) (ps : List MemPlace) : Prop := ∀ b off, MemPlace.cell b off ∈ ps →
    (∃ c t, W.heap[b]? = some (.cells c t (0, 0))) ∧ ∀ u v, W.cell? ⟨b, off, none⟩ = some (.iface u v) → Value.okWide Tryd.prog W .any 0 u v
def Glob (x : Nat × String × List UInt8) : Prop := Tryd.prog.globalNamed x.2.1 = some x.1 ∧ (Tryd.prog.globals[x.1]?).map (·.type) = some 32

/-- where the object of a sentinel lies -/
def sentAt (W : World) (g : Nat) : Addr := match W.cell? ⟨g, 0, none⟩ with | some (.iface _ (.pointer (some a))) => a | _ => ⟨0, 0, none⟩

end Go.Proofs.YtfhpnkmpjijebaaDoor

/- Opening the laws' arguments: boxes, spots. -/
namespace Go.Proofs.YtfhpnkmpjijebaaDoor
open Go.ChangeShapes Go.WideShapes Go.ChangeAt Go.RowKit Go.Joins
set_option maxRecDepth 20000

theorem laidOut : laidOutB Tryd.prog = true := by kernel_rfl
section
variable {H : Type} {enc : TypeId × Value → H} {w : World} {base : Nat} {sp : Nat → Bool} {held : Bool}
end
end Go.Proofs.YtfhpnkmpjijebaaDoor

/- Opening the laws' arguments: globes, vectors, places. -/
namespace Go.Proofs.YtfhpnkmpjijebaaDoor
open Go.ChangeShapes Go.WideShapes Go.ChangeAt Go.RowKit Go.Joins
set_option maxRecDepth 20000

theorem cellsGlobe : Tryd.prog.cellsOf 24 = 2 := by kernel_rfl
theorem cellsPlace : Tryd.prog.cellsOf 26 = 2 := by kernel_rfl

section
variable {H : Type} {enc : TypeId × Value → H} {w : World} {base : Nat} {sp : Nat → Bool} {held : Bool}
theorem trod_float1 {P : Program} {fuel : Nat} {t : TypeId} {k : FloatKind} {cs : List Value} {x : DataW H × List MemPlace} (ht : P.underlying t = some (.float k)) (h : DataW.trod enc P w base sp held fuel t cs = some x) : ∃ n, cs = [.float k n] ∧ x.2 = [] := by
  cases fuel with
  | zero => simp [DataW.trod] at h
  | succ n =>
    unfold DataW.trod at h
    rw [ht] at h
    split at h <;> simp_all
    rw [← h.2]
theorem open_globe {r : Reach} {b0 : Nat} {v : Value} {d : DataW H} {ps : List MemPlace} (hval : Value.okWide Tryd.prog w r b0 24 v) (hd : DataW.Trod enc Tryd.prog w base sp held 24 v d ps) :
    ∃ a f : Nat, v = .agg #[.float .f64 a, .float .f64 f] ∧ ps = [] := by
  obtain ⟨c0, c1, y0, y1, m, rfl, rfl, rfl, h0, h1⟩ := open_agg2 Tryd.underlying24 (by kernel_rfl) cellsGlobe hval hd
  obtain ⟨a, e0, k0⟩ := trod_float1 Tryd.underlying22 h0
  obtain ⟨b, e1, k1⟩ := trod_float1 Tryd.underlying22 h1
  simp at e0 e1
  exact ⟨a, b, by rw [e0, e1], by rw [k0, k1]; rfl⟩
theorem open_place {r : Reach} {b0 : Nat} {v : Value} {d : DataW H} {ps : List MemPlace} (hval : Value.okWide Tryd.prog w r b0 26 v) (hd : DataW.Trod enc Tryd.prog w base sp held 26 v d ps) :
    ∃ lon lat : Int, v = .agg #[.int .i64 lon, .int .i64 lat] ∧ ps = [] := by
  obtain ⟨c0, c1, y0, y1, m, rfl, rfl, rfl, h0, h1⟩ := open_agg2 Tryd.underlying26 (by kernel_rfl) cellsPlace hval hd
  obtain ⟨a, e0, rfl, _⟩ := DataW.trod_int Tryd.underlying3 h0
  obtain ⟨b, e1, rfl, _⟩ := DataW.trod_int Tryd.underlying3 h1
  simp at e0 e1
  exact ⟨a, b, by rw [e0, e1], rfl⟩
end
end Go.Proofs.YtfhpnkmpjijebaaDoor

/- The list of PathBack; a start that meets it. -/
namespace Go.Proofs.YtfhpnkmpjijebaaDoor
open Go.ChangeShapes Go.WideShapes Go.ChangeAt Go.RowKit Go.Joins Go.Rel
set_option maxRecDepth 20000

/-- the list, as the row has it -/
abbrev laid3 : List (String × DataW Unit) := [("mercator/api.ErrShape", Rows.laid_mercator_api_ErrShape), ("mercator/api.ErrRange", Rows.laid_mercator_api_ErrRange), ("mercator/api.ErrNone", Rows.laid_mercator_api_ErrNone)]
/-- The door's own heap meets the list. -/
theorem door3 (os : Os) (args : Array Value) : laidMetH Tryd.prog laid3 ((World.doorLaid Tryd.prog 400 os).forCall (fun _ _ => 0) ⟨#[], args, []⟩).memory :=
  show laidMet Tryd.prog laid3 _ from laidMet_of_run' 8 (by kernel_rfl) (by kernel_rfl)
end Go.Proofs.YtfhpnkmpjijebaaDoor
