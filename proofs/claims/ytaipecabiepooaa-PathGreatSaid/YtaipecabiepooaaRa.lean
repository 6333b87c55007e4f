/- Regions that draw their order and lay two blocks: the two are not one. -/
import Derived.Test.YtaipecabiepooaaRel
namespace Go.Rel
open Go.RowKit

section
variable {P : Program} {ops : Array Oper} {md : Region.Mode} {w0 : World} {F : FuncId → Array Value → Value → Prop}

/-- operation i has been carried out -/
def Went (P : Program) (ops : Array Oper) (i : Nat) (a : Act) (w : World) (a' : Act) (w' : World) : Prop :=
  ∃ o v, ops[i]? = some o ∧ a' = a.put o.dst v ∧ Ext w w' ∧ (o.guard = none → ∀ u w2, (execOp a.eval o).run P w = .ok (.value u) w2 → v = u ∧ w' = w2)

theorem wpOp_of_rOp' {i : Nat} {a : Act} {K : Act → Post → Prop} {K' : Act → World → Prop} {Q' : Exit → Act → World → Prop} {w : World} {Φ : Post} (hi : ops[i]?.isSome = true)
    (hw : Ext w0 w) (hΦ : Φ w) (hm : ∀ w w', Φ w → Ext w w' → Φ w')
    (h : ∀ a' w' Φ', Went P ops i a w a' w' → Ext w0 w' → Φ' w' → (∀ w w', Φ' w → Ext w w' → Φ' w') → K a' Φ' → K' a' w') (hh : rOp P ops F w0 i K a Φ) : wpOp P ops Q' i K' a w := by
  unfold rOp at hh
  unfold wpOp
  split
  · rename_i ho; rw [ho] at hi; cases hi
  · rename_i o ho
    simp only [ho] at hh
    split
    · rename_i hwd
      simp only [hwd, if_true] at hh
      obtain ⟨hp, hk⟩ := hh
      refine .inl ?_
      have hp1 := hp w hw
      have key : ∀ v w', (∀ u w2, (execOp a.eval o).run P w = .ok (.value u) w2 → v = u ∧ w' = w2) → May P F w0 (execOp a.eval o) v → Ext w w' → MayW P F w0 (execOp a.eval o) v w' → K' (a.put o.dst v) w' := fun v w' hr hc hx hC =>
        h _ _ (fun w => Φ w ∧ MayW P F w0 (execOp a.eval o) v w) ⟨o, v, ho, rfl, hx, fun _ => hr⟩ (hw.trans hx) ⟨hm _ _ hΦ hx, hC⟩ (fun w w' k x => ⟨hm _ _ k.1 x, k.2.mono x⟩) (hk v hc)
      unfold Oper.wp
      cases hr : (execOp a.eval o).run P w with
      | ok x w' =>
        simp only [hr] at hp1
        cases x <;> simp only [Oper.upon] <;> first | (exact hp1.elim) | skip
        case value v =>
          have hC : MayW P F w0 (execOp a.eval o) v w' := ⟨w, hw, by rw [hr]; exact ⟨rfl, Ext.refl _⟩⟩
          exact key v w' (fun u w2 e => by rw [hr] at e; cases e; exact ⟨rfl, rfl⟩) ⟨w', hC⟩ hp1 hC
        case skip =>
          have hC : MayW P F w0 (execOp a.eval o) undef w' := ⟨w, hw, by rw [hr]; exact ⟨rfl, Ext.refl _⟩⟩
          exact key undef w' (fun u w2 e => by rw [hr] at e; cases e) ⟨w', hC⟩ hp1 hC
        case enter f args =>
          refine hp1.2.mono ?_
          rintro e w'' ⟨v, rfl, hF, hx⟩
          have hC : MayW P F w0 (execOp a.eval o) v w'' := ⟨w, hw, by rw [hr]; exact ⟨hF, hx⟩⟩
          exact key v w'' (fun u w2 e => by rw [hr] at e; cases e) ⟨w'', hC⟩ (hp1.1.trans hx) hC
      | halt x w' => simp only [hr] at hp1
    · rename_i hwd
      simp only [hwd] at hh
      refine h _ _ _ ⟨o, undef, ho, rfl, Ext.refl _, fun hg => ?_⟩ hw hΦ hm hh
      exfalso; apply hwd; simp [Region.wanted, hg]

theorem wpAny_of_rel' {n g : Nat} {L : Array Bool → Act → Post → Prop} {Q' : Exit → Act → World → Prop} (I : Array Bool → Act → World → Prop)
    (hI : ∀ listed i a w a' w', listed.size = ops.size → i < n → i ∈ Region.ready md ops listed → I listed a w → Went P ops i a w a' w' → I (listed.setIfInBounds i true) a' w')
    (hL : ∀ listed a w Φ, Ext w0 w → Φ w → I listed a w → L listed a Φ → wpAny P md ops Q' g listed a w) :
    ∀ (f : Nat) (listed : Array Bool) (a : Act) (w : World) (Φ : Post), listed.size = ops.size → Ext w0 w → Φ w → (∀ w w', Φ w → Ext w w' → Φ w') → I listed a w → wpAnyR P md ops F w0 n L f listed a Φ → wpAny P md ops Q' (f + g) listed a w
  | 0, listed, a, w, Φ, _, hw, hΦ, _, hi, h => by rw [Nat.zero_add]; exact hL _ _ _ _ hw hΦ hi h
  | f + 1, listed, a, w, Φ, hs, hw, hΦ, hm, hin, h => by
    rw [show f + 1 + g = (f + g) + 1 by omega]
    refine ⟨fun h0 => absurd h0 h.1, fun i hi => ?_⟩
    have hsome : ops[i]?.isSome = true := by
      obtain ⟨_, oj, hoj, _⟩ := mem_ready.1 hi
      rw [hoj]; rfl
    exact wpOp_of_rOp' hsome hw hΦ hm (fun a' w' Φ' hst hw' hΦ' hm' h' => wpAny_of_rel' I hI hL f _ a' w' Φ' (by simp [hs]) hw' hΦ' hm' (hI _ _ _ _ _ _ hs (h.2 i hi).1 hi hin hst) h') (h.2 i hi).2

/-- blocks laid by operations p and q -/
structure PairI (p q : Nat) (dp dq : Tmp) (listed : Array Bool) (a : Act) (w : World) : Prop where
  inp : dp < a.tmps.size
  inq : dq < a.tmps.size
  atp : listed.getD p false = true → ∃ n, a.tmps.getD dp undef = .pointer (some ⟨n, 0, none⟩) ∧ n < w.heap.size
  atq : listed.getD q false = true → ∃ n, a.tmps.getD dq undef = .pointer (some ⟨n, 0, none⟩) ∧ n < w.heap.size
  ne : listed.getD p false = true → listed.getD q false = true → a.tmps.getD dp undef ≠ a.tmps.getD dq undef

/-- closed: p lays into dp, q into dq, nobody else writes there -/
def pairB (ops : Array Oper) (p q : Nat) (dp dq : Tmp) : Bool :=
  decide (p ≠ q) && decide (dp ≠ dq) && (List.range ops.size).all fun k => match ops[k]? with
    | some o => (if k = p then o.dst == some dp && o.guard.isNone else o.dst != some dp) && (if k = q then o.dst == some dq && o.guard.isNone else o.dst != some dq)
    | none => false

theorem put_size (a : Act) (d : Option Tmp) (v : Value) : (a.put d v).tmps.size = a.tmps.size := by
  unfold Act.put; split <;> simp
theorem put_getD_same (a : Act) (d : Tmp) (v : Value) (h : d < a.tmps.size) : (a.put (some d) v).tmps.getD d undef = v := by
  simp [Act.put, h]
theorem put_getD_other (a : Act) (d : Option Tmp) (e : Tmp) (v : Value) (h : d ≠ some e) : (a.put d v).tmps.getD e undef = a.tmps.getD e undef := by
  unfold Act.put
  split
  · rename_i k
    have : k ≠ e := fun hk => h (by rw [hk])
    simp [Array.getElem?_setIfInBounds_ne this]
  · rfl

theorem getD_set_same {listed : Array Bool} {i : Nat} (h : i < listed.size) : (listed.setIfInBounds i true).getD i false = true := by simp [h]

theorem PairI.step {p q : Nat} {dp dq : Tmp} (hB : pairB ops p q dp dq = true)
    (hrp : ∀ o, ops[p]? = some o → ∀ (a : Act) w, ∃ O, (execOp a.eval o).run P w = .ok (.value (.pointer (some ⟨w.heap.size, 0, none⟩))) (w.alloc O))
    (hrq : ∀ o, ops[q]? = some o → ∀ (a : Act) w, ∃ O, (execOp a.eval o).run P w = .ok (.value (.pointer (some ⟨w.heap.size, 0, none⟩))) (w.alloc O))
    (listed : Array Bool) (i : Nat) (a : Act) (w : World) (a' : Act) (w' : World) (h : PairI p q dp dq listed a w) (hst : Went P ops i a w a' w') :
    PairI p q dp dq (listed.setIfInBounds i true) a' w' := by
  obtain ⟨o, v, ho, rfl, hx, hv⟩ := hst
  simp only [pairB, Bool.and_eq_true, decide_eq_true_eq] at hB
  obtain ⟨⟨hpq, hd⟩, hall⟩ := hB
  have hil : i < ops.size := (Array.getElem?_eq_some_iff.1 ho).1
  have hi := List.all_eq_true.1 hall i (List.mem_range.2 hil)
  simp only [ho, Bool.and_eq_true] at hi
  obtain ⟨h1, h2⟩ := hi
  have hsz := hx.size
  by_cases hip : i = p
  · subst hip
    rw [if_pos rfl] at h1
    rw [if_neg hpq] at h2
    simp only [Bool.and_eq_true, beq_iff_eq, Option.isNone_iff_eq_none, bne_iff_ne, ne_eq] at h1 h2
    obtain ⟨O, hrun⟩ := hrp o ho a w
    obtain ⟨rfl, rfl⟩ := hv h1.2 _ _ hrun
    have ep : (a.put o.dst (.pointer (some ⟨w.heap.size, 0, none⟩))).tmps.getD dp undef = .pointer (some ⟨w.heap.size, 0, none⟩) := by rw [h1.1]; exact put_getD_same _ _ _ h.inp
    have eq : (a.put o.dst (.pointer (some ⟨w.heap.size, 0, none⟩))).tmps.getD dq undef = a.tmps.getD dq undef := put_getD_other _ _ _ _ h2
    have hlq : listed.getD q false = true → ∃ n, a.tmps.getD dq undef = .pointer (some ⟨n, 0, none⟩) ∧ n < w.heap.size := h.atq
    refine ⟨by rw [put_size]; exact h.inp, by rw [put_size]; exact h.inq, fun _ => ⟨_, ep, by rw [alloc_size]; omega⟩, fun hq => ?_, fun _ hq => ?_⟩
    · rw [getD_set_ne false hpq] at hq
      obtain ⟨n, e, hn⟩ := hlq hq
      exact ⟨n, by rw [eq, e], by rw [alloc_size]; omega⟩
    · rw [getD_set_ne false hpq] at hq
      obtain ⟨n, e, hn⟩ := hlq hq
      rw [ep, eq, e]
      intro hc
      injection hc with hc; injection hc with hc; injection hc with hc
      omega
  · by_cases hiq : i = q
    · subst hiq
      rw [if_neg hip] at h1
      rw [if_pos rfl] at h2
      simp only [Bool.and_eq_true, beq_iff_eq, Option.isNone_iff_eq_none, bne_iff_ne, ne_eq] at h1 h2
      obtain ⟨O, hrun⟩ := hrq o ho a w
      obtain ⟨rfl, rfl⟩ := hv h2.2 _ _ hrun
      have ep : (a.put o.dst (.pointer (some ⟨w.heap.size, 0, none⟩))).tmps.getD dq undef = .pointer (some ⟨w.heap.size, 0, none⟩) := by rw [h2.1]; exact put_getD_same _ _ _ h.inq
      have eq : (a.put o.dst (.pointer (some ⟨w.heap.size, 0, none⟩))).tmps.getD dp undef = a.tmps.getD dp undef := put_getD_other _ _ _ _ h1
      refine ⟨by rw [put_size]; exact h.inp, by rw [put_size]; exact h.inq, fun hp => ?_, fun _ => ⟨_, ep, by rw [alloc_size]; omega⟩, fun hp _ => ?_⟩
      · rw [getD_set_ne false hip] at hp
        obtain ⟨n, e, hn⟩ := h.atp hp
        exact ⟨n, by rw [eq, e], by rw [alloc_size]; omega⟩
      · rw [getD_set_ne false hip] at hp
        obtain ⟨n, e, hn⟩ := h.atp hp
        rw [ep, eq, e]
        intro hc
        injection hc with hc; injection hc with hc; injection hc with hc
        omega
    · rw [if_neg hip] at h1
      rw [if_neg hiq] at h2
      simp only [bne_iff_ne, ne_eq] at h1 h2
      have ep := put_getD_other a o.dst dp v h1
      have eq := put_getD_other a o.dst dq v h2
      refine ⟨by rw [put_size]; exact h.inp, by rw [put_size]; exact h.inq, fun hp => ?_, fun hq => ?_, fun hp hq => ?_⟩
      · rw [getD_set_ne false hip] at hp
        obtain ⟨n, e, hn⟩ := h.atp hp
        exact ⟨n, by rw [ep, e], by omega⟩
      · rw [getD_set_ne false hiq] at hq
        obtain ⟨n, e, hn⟩ := h.atq hq
        exact ⟨n, by rw [eq, e], by omega⟩
      · rw [getD_set_ne false hip] at hp
        rw [getD_set_ne false hiq] at hq
        rw [ep, eq]; exact h.ne hp hq

theorem all_listed {n g : Nat} {listed : Array Bool} (hs : Region.sinkB md ops n = true) (hc : Region.chainB md ops n = true) (hn : n < ops.size) (inv : HeadInv md ops n listed)
    (hg : 0 < g) (h : Region.seqB md ops g n listed = true) (i : Nat) (hi : i < n) : listed.getD i false = true := by
  cases hl : listed.getD i false with
  | true => rfl
  | false =>
    exfalso
    have hun : listed.getD i true = false := getD_in (by rw [inv.size]; omega) hl
    refine tail_waits hs hc hn inv _ i rfl hi hun n (Nat.le_refl _) ?_
    cases g with
    | zero => omega
    | succ g =>
      simp only [Region.seqB, Bool.and_eq_true, decide_eq_true_eq] at h
      rw [h.1]; simp

/-- THE FIRST n OPERATIONS IN WHATEVER ORDER, two of them laying blocks: the two are not one. -/
theorem wp_region_pair {id : Nat} {Q : Exit → Act → World → Prop} {a : Act} {w : World} {l : List Oper} (n p q : Nat) (dp dq : Tmp) (F : FuncId → Array Value → Value → Prop) (hm : P.follows .mixedOrders = true) (hB : relB .any l.toArray n = true)
    (hn : n < l.length) (hp : p < n) (hq : q < n) (hpair : pairB l.toArray p q dp dq = true)
    (hrp : ∀ o, l.toArray[p]? = some o → ∀ (a : Act) w, ∃ O, (execOp a.eval o).run P w = .ok (.value (.pointer (some ⟨w.heap.size, 0, none⟩))) (w.alloc O))
    (hrq : ∀ o, l.toArray[q]? = some o → ∀ (a : Act) w, ∃ O, (execOp a.eval o).run P w = .ok (.value (.pointer (some ⟨w.heap.size, 0, none⟩))) (w.alloc O))
    (hinp : dp < a.tmps.size) (hinq : dq < a.tmps.size)
    (h : wpR P l.toArray F w.drew (fun a' Φ => ∀ w', Ext w.drew w' → Φ w' → a'.tmps.getD dp undef ≠ a'.tmps.getD dq undef → wpList P l.toArray Q (l.drop n) a' w') (l.take n) a (fun _ => True)) : (Code.region id l.toArray true).wp P Q a w := by
  simp only [relB, Bool.and_eq_true, Bool.or_eq_true, decide_eq_true_eq, beq_iff_eq] at hB
  obtain ⟨⟨hsel, hns⟩, hlex⟩ := hB
  have hsize : l.toArray.size = l.length := by simp
  obtain ⟨⟨hn2, hs⟩, hc⟩ := hns.resolve_left (by omega)
  have htl : (l.take n).length = n := by simp; omega
  have hdl : (l.drop n).length = l.toArray.size - n := by simp
  have inv0 : HeadInv .any l.toArray n (Array.replicate l.toArray.size false) :=
    ⟨by simp, fun j oj _ hl => (by rw [getD_replicate_false] at hl; cases hl), fun t _ ht => getD_in (by simpa using ht) (getD_replicate_false _ _)⟩
  have hready : ∀ listed i, i < n → HeadInv .any l.toArray n listed → i ∈ Region.ready .any l.toArray listed → ∀ j ∈ Region.ready .any l.toArray listed, j < n := by
    intro listed i hi inv hir j hj
    rcases Nat.lt_or_ge j n with h | h
    · exact h
    · exact absurd hj (tail_waits hs hc hn2 inv _ i rfl hi (mem_ready.1 hir).1 j h)
  have h' := wpRel_of_wpR (fun a Φ Φ' k h w' hx hΦ hd => h w' hx (k _ hΦ) hd) _ _ _ _ (fun _ k => k) h
  have H := wpRel_lex (md := .any) (g := l.toArray.size - n) (n := n) (P := P) (F := F) (w0 := w.drew) (Q := fun a' Φ => ∀ w', Ext w.drew w' → Φ w' → a'.tmps.getD dp undef ≠ a'.tmps.getD dq undef → wpList P l.toArray Q (l.drop n) a' w')
    (fun _ _ _ k h w' hx hΦ hd => h w' hx (k _ hΦ) hd) hsel hready (l.take n) 0 _ a (fun _ => True) (fun j hj => by
    have hj' : j < n := by rw [htl] at hj; exact hj
    simp [hj']) (by simpa using htl) inv0 (by rw [htl]; exact hlex) h'
  refine wp_region_any hm ?_
  have := wpAny_of_rel' (Q' := Q) (g := l.toArray.size - n) (fun listed a w => PairI p q dp dq listed a w ∧ HeadInv .any l.toArray n listed)
    (fun listed i a w a' w' _ hin hr hI hst => ⟨PairI.step hpair hrp hrq listed i a w a' w' hI.1 hst, hI.2.set hr hin⟩)
    (fun listed a' w' Φ hx hΦ hI hL => by
      have hlp := all_listed hs hc hn2 hI.2 (by omega) hL.1 p hp
      have hlq := all_listed hs hc hn2 hI.2 (by omega) hL.1 q hq
      have := wpAny_of_seq (md := .any) (Q' := Q) (l.drop n) n listed a' w' (fun j => by simp [List.getElem?_drop]) (by rw [hdl]; exact hL.1) (hL.2 w' hx hΦ (hI.1.ne hlp hlq))
      rwa [hdl] at this) _ _ _ w.drew _ (by simp) (Ext.refl _) trivial (fun _ _ h _ => h)
    ⟨⟨hinp, hinq, fun k => (by rw [getD_replicate_false] at k; cases k), fun k => (by rw [getD_replicate_false] at k; cases k), fun k => (by rw [getD_replicate_false] at k; cases k)⟩, inv0⟩ H
  have hsz : n + (l.toArray.size - n) = l.toArray.size := by omega
  rw [htl, hsz] at this
  exact this
end
end Go.Rel
