/- Walks: the numbers of a series, the reference's. -/
import Derived.Test.YtcppgbhjbmfldaaGreatDoorZQ
import Derived.Test.YtcppgbhjbmfldaaGreatDoorZU
import Derived.Test.YtcppgbhjbmfldaaGreatDoorZU
import Derived.Deep.AppendLies
namespace Go.Proofs.YtcppgbhjbmfldaaGreatDoor
open Go.RowKit Go.Fp Go.Rel
set_option maxRecDepth 20000

theorem infoFl : (Tryz.prog.info? 41).map (fun i => (i.zero, i.size, i.bytes)) = some (some (.float .f64 0), 1, 8) := by kernel_rfl
theorem info_fl : ∃ i, Tryz.prog.info? 41 = some i ∧ i.zero = some (.float .f64 0) ∧ i.size = 1 ∧ i.bytes = 8 := by
  have h := infoFl
  cases hi : Tryz.prog.info? 41 with
  | none => rw [hi] at h; cases h
  | some i =>
    rw [hi] at h
    simp only [Option.map_some, Option.some.injEq, Prod.mk.injEq] at h
    exact ⟨i, rfl, h.1, h.2.1, h.2.2⟩
theorem owns_ext' {w w' : World} {base size n : Nat} {e : TypeId} {v : Value} {xs : List Value} (h : w.ownsRow base e size v n xs) (hx : Ext w w') : w'.ownsRow base e size v n xs := by
  refine ⟨h.1, ?_⟩
  rcases h.2 with hn | ⟨g, cap, cur, rfl, hb, hgg, rest⟩
  · exact .inl hn
  · exact .inr ⟨g, cap, cur, rfl, hb, (hx.block g (Array.getElem?_eq_some_iff.1 hgg).1).trans hgg, rest⟩
theorem below_grown {w w' : World} {base size n : Nat} {e : TypeId} {v : Value} {xs : List Value} (h : w.ownsRow base e size v n xs) (hg : w.grownBy w' v.ownBlock) (hb : base ≤ w.heap.size) : Below base w w' :=
  ⟨hg.os, hg.tape, hg.output, hg.size, fun k hk => hg.block k (by omega) (fun e => by have := (h.lt k e.symm).1; omega)⟩
theorem blk_below {w w' : World} {base g : Nat} {t : TypeId} {cs : Array Value} (h : Blk w g t cs) (hx : Below base w w') (hg : g < base) : Blk w' g t cs := (hx.block g hg).trans h
/-- after an append and a store of the new row into a field of the block nR -/
theorem after_append {w w8 w9 : World} {base nR n m : Nat} {tN : TypeId} {v : Value} {xs news : List Value} {g cap i : Nat} {cs : Array Value}
    (hw : Ext w w8) (hb : Blk w8 nR tN cs) (ho : w8.ownsRow base tF 1 v n xs) (hR : nR < base) (hwR : w.heap.size ≤ nR) (hsz : base ≤ w8.heap.size)
    (hn : w9.ownsRow base tF 1 (.slice (some ⟨g, 0, none⟩) (n + m) cap) (n + m) (xs ++ news)) (hg : w8.grownBy w9 v.ownBlock) :
    Ext w (w9.setCell ⟨nR, i, none⟩ (.slice (some ⟨g, 0, none⟩) (n + m) cap)) ∧ Blk (w9.setCell ⟨nR, i, none⟩ (.slice (some ⟨g, 0, none⟩) (n + m) cap)) nR tN (cs.setIfInBounds i (.slice (some ⟨g, 0, none⟩) (n + m) cap)) ∧
    (w9.setCell ⟨nR, i, none⟩ (.slice (some ⟨g, 0, none⟩) (n + m) cap)).ownsRow base tF 1 (.slice (some ⟨g, 0, none⟩) (n + m) cap) (n + m) (xs ++ news) ∧ w8.heap.size ≤ (w9.setCell ⟨nR, i, none⟩ (.slice (some ⟨g, 0, none⟩) (n + m) cap)).heap.size ∧ Blk w9 nR tN cs ∧ (∀ k, k < base → k ≠ nR → (w9.setCell ⟨nR, i, none⟩ (.slice (some ⟨g, 0, none⟩) (n + m) cap)).heap[k]? = w8.heap[k]?) ∧ (∀ k, k < base → w9.heap[k]? = w8.heap[k]?) := by
  have hB := below_grown ho hg hsz
  have hw9 : Ext w w9 := ⟨hB.os.trans hw.os, hB.tape.trans hw.tape, hB.output.trans hw.output, Nat.le_trans hw.size hB.size, fun k hk => (hB.block k (by omega)).trans (hw.block k hk)⟩
  have hb9 := blk_below hb hB hR
  exact ⟨hw9.setCell hwR _, blk_set2 (i := i) _ hb9, ownsRow_setCell_below hn hR _, by simp; exact hB.size, hb9, fun k hk hne => by rw [setCell_other2 _ _ _ _ _ hne]; exact hB.block k hk, hB.block⟩

theorem horn4 (N : Nat) {c0 c1 c2 c3 : Nat} (h : fadd (can c3) (fmul N 0) = can c3) : hornP N [c3, c2, c1, c0] 4 = polyS N [c0, c1, c2, c3] 3 := by
  simp [hornP, polyS, h]
theorem horn3 (N : Nat) {c0 c1 c2 : Nat} (h : fadd (can c2) (fmul N 0) = can c2) : hornP N [c2, c1, c0] 3 = polyS N [c0, c1, c2] 2 := by
  simp [hornP, polyS, h]
theorem horn2 (N : Nat) {c0 c1 : Nat} (h : fadd (can c1) (fmul N 0) = can c1) : hornP N [c1, c0] 2 = polyS N [c0, c1] 1 := by
  simp [hornP, polyS, h]
theorem num_of_btw {x lo hi : Nat} (h : btw x lo hi = true) : isNan x = false := by
  cases hn : isNan x with
  | false => rfl
  | true =>
    unfold btw fge at h
    rw [order_l _ _ hn] at h
    simp at h
/-- the third flattening is a number: what it makes of zero is a zero -/
theorem horn_zero {a f : Nat} (hg : okG a f = true) : fmul (nS f) 0 = 0 ∨ fmul (nS f) 0 = 9223372036854775808 := by
  unfold okG at hg
  rw [Bool.and_eq_true] at hg
  have h2 := hg.2
  have hf := can_of_not (num_of_btw h2)
  unfold btw at h2
  rw [Bool.and_eq_true] at h2
  have ht : can 4611686018427387904 = two := by kernel_rfl
  have := mul_zero (third_num h2.1 h2.2)
  unfold nS
  rw [hf, ht]
  exact this
theorem zero_add : ∀ c ∈ [4597374579611521661, 4600639689341365271, 13828173981566040240, 13791923578851126295, 13822510526320350913, 13809880788793911511], fadd (can c) 0 = can c ∧ fadd (can c) 9223372036854775808 = can c := by decide +kernel
theorem zero_add' {a f c : Nat} (hg : okG a f = true) (hc : c ∈ [4597374579611521661, 4600639689341365271, 13828173981566040240, 13791923578851126295, 13822510526320350913, 13809880788793911511]) : fadd (can c) (fmul (nS f) 0) = can c := by
  rcases horn_zero hg with h | h
  · rw [h]; exact (zero_add c hc).1
  · rw [h]; exact (zero_add c hc).2
/-- four floats in a row -/
def Fl4 (w : World) (g y0 y1 y2 y3 : Nat) : Prop := w.cell? ⟨g, 0, none⟩ = some (.float .f64 y0) ∧ w.cell? ⟨g, 1, none⟩ = some (.float .f64 y1) ∧ w.cell? ⟨g, 2, none⟩ = some (.float .f64 y2) ∧ w.cell? ⟨g, 3, none⟩ = some (.float .f64 y3)
theorem Fl4.block {w w' : World} {g y0 y1 y2 y3 : Nat} (h : Fl4 w g y0 y1 y2 y3) (hb : w'.heap[g]? = w.heap[g]?) : Fl4 w' g y0 y1 y2 y3 := by
  obtain ⟨h0, h1, h2, h3⟩ := h
  exact ⟨(World.cell?_of_block (a := ⟨g, 0, none⟩) hb).trans h0, (World.cell?_of_block (a := ⟨g, 1, none⟩) hb).trans h1, (World.cell?_of_block (a := ⟨g, 2, none⟩) hb).trans h2, (World.cell?_of_block (a := ⟨g, 3, none⟩) hb).trans h3⟩
theorem Fl4.lt {w : World} {g y0 y1 y2 y3 : Nat} (h : Fl4 w g y0 y1 y2 y3) : g < w.heap.size := World.block_lt_of_cell? w _ h.1
theorem Fl4.ext {w w' : World} {g y0 y1 y2 y3 : Nat} (h : Fl4 w g y0 y1 y2 y3) (hx : Ext w w') : Fl4 w' g y0 y1 y2 y3 := h.block (hx.block g h.lt)
theorem Fl4.set {w : World} {g y0 y1 y2 y3 n i : Nat} {v : Value} (h : Fl4 w g y0 y1 y2 y3) (hn : g ≠ n) : Fl4 (w.setCell ⟨n, i, none⟩ v) g y0 y1 y2 y3 := h.block (setCell_other2 _ _ _ _ _ hn)
theorem fl4_of_owns {w : World} {b g cap y0 y1 y2 y3 : Nat} (h : w.ownsRow b tF 1 (.slice (some ⟨g, 0, none⟩) 4 cap) 4 [.float .f64 y0, .float .f64 y1, .float .f64 y2, .float .f64 y3]) : Fl4 w g y0 y1 y2 y3 := by
  have hc := h.cells rfl
  refine ⟨?_, ?_, ?_, ?_⟩
  · simpa [Addr.add] using hc 0 _ rfl
  · simpa [Addr.add] using hc 1 _ rfl
  · simpa [Addr.add] using hc 2 _ rfl
  · simpa [Addr.add] using hc 3 _ rfl
def NumR (a f : Nat) (w : World) (e : Ending) (w' : World) : Prop := ∃ r ga ca gb cb y0 y1 y2 y3 x0 x1 x2 x3, e = .returned (.agg #[.float .f64 r, .slice (some ⟨ga, 0, none⟩) 4 ca, .slice (some ⟨gb, 0, none⟩) 4 cb]) ∧ can r = radS a f ∧
  (can y0 = rowS tabA cA4 f 0 ∧ can y1 = rowS tabA cA4 f 1 ∧ can y2 = rowS tabA cA4 f 2 ∧ can y3 = rowS tabA cA4 f 3) ∧ (can x0 = rowS tabB cB4 f 0 ∧ can x1 = rowS tabB cB4 f 1 ∧ can x2 = rowS tabB cB4 f 2 ∧ can x3 = rowS tabB cB4 f 3) ∧
  Fl4 w' ga y0 y1 y2 y3 ∧ Fl4 w' gb x0 x1 x2 x3 ∧ Ext w w'
set_option maxHeartbeats 40000000 in
theorem numbersOf_c (a f : Nat) (w : World) (hg0 : okG a f = true) : Calls Tryz.prog 45 #[globeV a f] w (NumR a f w) := by
  obtain ⟨i0, hi, hz0, hz1, hz2⟩ := info_fl
  go_enter Tryz.func45, Tryz.ntmps45
  go_wp2_with (first
    | (with_reducible refine upon_fl rfl ?_; intro r n hr))
  rename_i q1 m1 g1 q2 m2 g2 q3 m3 g3 q4 m4 g4 q5 m5 g5 q6 m6 g6 q7 m7 g7 q8 m8 g8 q9 m9 g9 q10 m10 g10 q11 m11 g11 KK hKK
  have G := Lib.hid (And.intro g1 (And.intro g2 (And.intro g3 (And.intro g4 (And.intro g5 (And.intro g6 (And.intro g7 (And.intro g8 (And.intro g9 (And.intro g10 (And.intro g11 hr)))))))))))
  clear g1 g2 g3 g4 g5 g6 g7 g8 g9 g10 g11 hr
  obtain ⟨wk, hwk⟩ : ∃ wk, wk = ((((w.alloc (.cells #[.float .f64 a, .float .f64 f] 58)).alloc (.cells #[.float .f64 0, .slice none 0 0, .slice none 0 0] 95)).alloc (.cells #[.float .f64 r, .slice none 0 0, .slice none 0 0] 95)).drewN (m1 + m2 + m3 + m4 + m5 + m6 + m7 + m8 + m9 + m10 + m11 + n)) := ⟨_, rfl⟩
  rw [← hwk]
  have e3 : Ext (((w.alloc (.cells #[.float .f64 a, .float .f64 f] 58)).alloc (.cells #[.float .f64 0, .slice none 0 0, .slice none 0 0] 95)).alloc (.cells #[.float .f64 r, .slice none 0 0, .slice none 0 0] 95)) wk := by rw [hwk]; exact (Ext.refl _).drewN _
  have hsz0 : wk.heap.size = w.heap.size + 1 + 1 + 1 := by rw [hwk]; simp
  obtain ⟨_, hz, hb, hw⟩ := ext3 e3
  clear hwk e3
  obtain ⟨bA, hbA⟩ : ∃ b, b = w.heap.size + 1 + 1 + 1 := ⟨_, rfl⟩
  have ho : wk.ownsRow bA tF 1 (.slice none 0 0) 0 [] := World.ownsRow_nil _ _ _ _
  have hsz : bA ≤ wk.heap.size := by omega
  clear hsz0
  -- region 1
  have tk1 : Hid True := trivial
  have tk2 : Hid True := trivial
  obtain ⟨b0, hb0⟩ : ∃ b0, b0 = wk.heap.size := ⟨_, rfl⟩
  refine wp_region_toldI 8 (fun g _ v => g = 76 ∧ isFl (hornP (can q2) [4597374579611521661, 4599301119452119040, 13827552055903212885, 4602678819172646912] 4) v) (SlI b0 tF (fun d cs => (d = 43 ∧ cs = fls [4597374579611521661, 4599301119452119040, 13827552055903212885, 4602678819172646912]) ∨ (d = 46 ∧ ∃ y, cs = #[.float .f64 y] ∧ can y = fbin BinOp.mul (can q2) (hornP (can q2) [4597374579611521661, 4599301119452119040, 13827552055903212885, 4602678819172646912] 4)))) (told_slI _ _ _) (by kernel_rfl) (by kernel_rfl) (told_allI (fun _ => trivial) ?_) ?_
  · simp [go_sem, slI_slice]
  repeat (first
    | (refine wpD_opI rfl (fun w2 hx hn K hK => ?_); have k2 := (hb.ext (bareN hx rfl rfl rfl rfl)).cell; go_simp; refine hK _ ?_; clear hK K k2 hx hn w2)
    | (refine wpD_opI rfl (fun w2 hx hn K hK => ?_); have k2 := (hb.ext (bareN hx rfl rfl rfl rfl)).cell; go_simp; simp only [slI_slice]; refine ⟨fun h => absurd h (by omega), ?_⟩; refine hK _ ?_; clear hK K k2 hx hn w2)
    | (refine wpD_opI rfl (fun w2 hx hn K hK => ?_); clear tk1; have hsc : b0 ≤ w2.heap.size := (by have := hx.size; simpa [hb0] using this); go_simp; refine ⟨(Ext.refl _).alloc _, fun _ => ⟨_, .inl ⟨rfl, rfl⟩, Blk.new _ _ _⟩, ?_⟩; generalize w2.heap.size = nbc1 at *; refine hK _ ?_; clear hK K hx hn w2)
    | (refine wpD_opI rfl (fun w2 hx hn K hK => ?_); have q : Blk w2 nbc1 tF (fls [4597374579611521661, 4599301119452119040, 13827552055903212885, 4602678819172646912]) := (by obtain ⟨cs, hc, q⟩ := (show b0 ≤ nbc1 → ∃ cs, (fun d cs => (d = 43 ∧ cs = fls [4597374579611521661, 4599301119452119040, 13827552055903212885, 4602678819172646912]) ∨ (d = 46 ∧ ∃ y, cs = #[.float .f64 y] ∧ can y = fbin BinOp.mul (can q2) (hornP (can q2) [4597374579611521661, 4599301119452119040, 13827552055903212885, 4602678819172646912] 4))) 43 cs ∧ Blk w2 nbc1 tF cs from hn 43 (by decide)) hsc; rcases hc with ⟨_, rfl⟩ | ⟨h, _⟩; exact q; exact absurd h (by decide)); go_simp; have hq := horner_c q2 [4597374579611521661, 4599301119452119040, 13827552055903212885, 4602678819172646912] nbc1 4 tF w2 q (by decide); refine relD_call (FlR.call hq) (fun v => ⟨fun h => ⟨rfl, h⟩, fun h => h.2⟩) (fun v w hv => (by obtain ⟨_, rfl, _⟩ := hv; intro d hd; trivial)) (fun v hv => ?_); clear hq q; obtain ⟨pa, rfl, hpa⟩ := hv; refine hK _ ?_; clear hK K hx hn w2)
    | (refine wpD_opI rfl (fun w2 hx hn K hK => ?_); clear tk2; go_simp; refine relD_fl rfl (fun y1a hy1 => ?_) (fun _ _ d hd => trivial); refine hK _ ?_; clear hK K hx hn w2)
    | (refine wpD_opI rfl (fun w2 hx hn K hK => ?_); have hsv : b0 ≤ w2.heap.size := (by have := hx.size; simpa [hb0] using this); go_simp; refine ⟨(Ext.refl _).alloc _, fun _ => ⟨_, .inr ⟨rfl, y1a, rfl, by rw [hy1, hpa]; rfl⟩, Blk.new _ _ _⟩, ?_⟩; generalize w2.heap.size = nbv1 at *; refine hK _ ?_; clear hK K hx hn w2))
  refine wpD_nilI ?_
  intro w8 hx8 hR8
  have lc8 : nbc1 < w8.heap.size := by
    obtain ⟨cs, _, q⟩ := (show b0 ≤ nbc1 → ∃ cs, (fun d cs => (d = 43 ∧ cs = fls [4597374579611521661, 4599301119452119040, 13827552055903212885, 4602678819172646912]) ∨ (d = 46 ∧ ∃ y, cs = #[.float .f64 y] ∧ can y = fbin BinOp.mul (can q2) (hornP (can q2) [4597374579611521661, 4599301119452119040, 13827552055903212885, 4602678819172646912] 4))) 43 cs ∧ Blk w8 nbc1 tF cs from hR8 43) hsc
    exact q.lt
  have q8 : ∃ y, Blk w8 nbv1 tF #[.float .f64 y] ∧ can y = fbin BinOp.mul (can q2) (hornP (can q2) [4597374579611521661, 4599301119452119040, 13827552055903212885, 4602678819172646912] 4) := by
    obtain ⟨cs, hc, q⟩ := (show b0 ≤ nbv1 → ∃ cs, (fun d cs => (d = 43 ∧ cs = fls [4597374579611521661, 4599301119452119040, 13827552055903212885, 4602678819172646912]) ∨ (d = 46 ∧ ∃ y, cs = #[.float .f64 y] ∧ can y = fbin BinOp.mul (can q2) (hornP (can q2) [4597374579611521661, 4599301119452119040, 13827552055903212885, 4602678819172646912] 4))) 46 cs ∧ Blk w8 nbv1 tF cs from hR8 46) hsv
    rcases hc with ⟨h, _⟩ | ⟨_, y, rfl, hy⟩
    · exact absurd h (by decide)
    · exact ⟨y, q, hy⟩
  clear hR8 hy1 hpa hsc hsv
  obtain ⟨y1a, q8, ey1a⟩ := q8
  have e8 : Ext wk w8 := bareN hx8 rfl rfl rfl rfl
  have hb8 := hb.ext e8
  have hz8 := hz.ext e8
  have ho8 := owns_ext' ho e8
  have hw8 := hw.trans e8
  have hsz8 : bA ≤ w8.heap.size := Nat.le_trans hsz e8.size
  have s8 := e8.size
  clear hx8 e8 hb ho hw hz
  refine wpList_append_lies w8 rfl _ _ 93 rfl bA 41 i0 (.float .f64 0) 1 8 Tryz.underlying93 hi hz0 hz1 hz2 rfl (by decide) _ 0 [] rfl ho8 ⟨nbv1, 0, none⟩ 1 1 [.float .f64 y1a] rfl rfl ?_ ?_ (by decide) (by unfold maxLen; omega) (by omega) hsz8 _ rfl ?_
  · intro j u hj
    match j, hj with
    | 0, hj => simp at hj; subst hj; simpa [Addr.add] using q8.cell 0
  · intro u hu; simp at hu; subst hu; rfl
  intro g1 cap1 w9 hn hg _ _
  replace hg : w8.grownBy w9 (Value.ownBlock (.slice none 0 0)) := hg
  obtain ⟨hwN, hbN, hoN, hsN, hb9, hkN, hk9⟩ := after_append (i := 1) hw8 hb8 ho8 (by omega) (by omega) hsz8 hn hg
  have cR := hb9.cell
  have fR := hb9.frozen
  have lv8 := q8.lt
  clear q8 hb8 ho8 hw8 hn hg hb9
  go_wp2_with fail
  have hz : Blk (w9.setCell ⟨w.heap.size + 1 + 1, 1, none⟩ (.slice (some ⟨g1, 0, none⟩) (0 + 1) cap1)) (w.heap.size + 1) 95 #[.float .f64 0, .slice none 0 0, .slice none 0 0] := (hkN _ (by omega) (by omega)).trans hz8
  clear cR fR hkN hk9 hz8
  generalize w9.setCell ⟨w.heap.size + 1 + 1, 1, none⟩ (.slice (some ⟨g1, 0, none⟩) (0 + 1) cap1) = wk1 at *
  have hw := hwN
  have ho : wk1.ownsRow bA tF 1 (.slice (some ⟨g1, 0, none⟩) 1 cap1) 1 [.float .f64 y1a] := hoN
  have hb : Blk wk1 (w.heap.size + 1 + 1) 95 #[.float .f64 r, .slice (some ⟨g1, 0, none⟩) 1 cap1, .slice none 0 0] := hbN
  have hsz : bA ≤ wk1.heap.size := Nat.le_trans hsz8 hsN
  have lt1 : g1 < wk1.heap.size := ((ho.lt _ rfl).2)
  have ltc1 : nbc1 < wk1.heap.size := by omega
  have ltv1 : nbv1 < wk1.heap.size := by omega
  clear hwN hoN hbN hsN hsz8 s8 hb0 lc8 lv8
  clear b0
  -- region 2
  have tk1 : Hid True := trivial
  have tk2 : Hid True := trivial
  obtain ⟨b0, hb0⟩ : ∃ b0, b0 = wk1.heap.size := ⟨_, rfl⟩
  have ng1 : ¬ b0 ≤ g1 := by omega
  have nc1 : ¬ b0 ≤ nbc1 := by omega
  have nv1 : ¬ b0 ≤ nbv1 := by omega
  refine wp_region_toldI 8 (fun g _ v => g = 76 ∧ isFl (hornP (can q2) [4600639689341365271, 13826951575952896819, 4598550519514223957] 3) v) (SlI b0 tF (fun d cs => (d = 53 ∧ cs = fls [4600639689341365271, 13826951575952896819, 4598550519514223957]) ∨ (d = 56 ∧ ∃ y, cs = #[.float .f64 y] ∧ can y = fbin BinOp.mul (can q3) (hornP (can q2) [4600639689341365271, 13826951575952896819, 4598550519514223957] 3)))) (told_slI _ _ _) (by kernel_rfl) (by kernel_rfl) (told_allI (fun _ => trivial) ?_) ?_
  · simp [go_sem, slI_slice, ng1, nc1, nv1]
  repeat (first
    | (refine wpD_opI rfl (fun w2 hx hn K hK => ?_); have k2 := (hb.ext (bareN hx rfl rfl rfl rfl)).cell; go_simp; refine hK _ ?_; clear hK K k2 hx hn w2)
    | (refine wpD_opI rfl (fun w2 hx hn K hK => ?_); have k2 := (hb.ext (bareN hx rfl rfl rfl rfl)).cell; go_simp; simp only [slI_slice]; refine ⟨fun h => absurd h (by omega), ?_⟩; refine hK _ ?_; clear hK K k2 hx hn w2)
    | (refine wpD_opI rfl (fun w2 hx hn K hK => ?_); clear tk1; have hsc : b0 ≤ w2.heap.size := (by have := hx.size; simpa [hb0] using this); go_simp; refine ⟨(Ext.refl _).alloc _, fun _ => ⟨_, .inl ⟨rfl, rfl⟩, Blk.new _ _ _⟩, ?_⟩; generalize w2.heap.size = nbc2 at *; refine hK _ ?_; clear hK K hx hn w2)
    | (refine wpD_opI rfl (fun w2 hx hn K hK => ?_); have q : Blk w2 nbc2 tF (fls [4600639689341365271, 13826951575952896819, 4598550519514223957]) := (by obtain ⟨cs, hc, q⟩ := (show b0 ≤ nbc2 → ∃ cs, (fun d cs => (d = 53 ∧ cs = fls [4600639689341365271, 13826951575952896819, 4598550519514223957]) ∨ (d = 56 ∧ ∃ y, cs = #[.float .f64 y] ∧ can y = fbin BinOp.mul (can q3) (hornP (can q2) [4600639689341365271, 13826951575952896819, 4598550519514223957] 3))) 53 cs ∧ Blk w2 nbc2 tF cs from hn 53 (by decide)) hsc; rcases hc with ⟨_, rfl⟩ | ⟨h, _⟩; exact q; exact absurd h (by decide)); go_simp; have hq := horner_c q2 [4600639689341365271, 13826951575952896819, 4598550519514223957] nbc2 3 tF w2 q (by decide); refine relD_call (FlR.call hq) (fun v => ⟨fun h => ⟨rfl, h⟩, fun h => h.2⟩) (fun v w hv => (by obtain ⟨_, rfl, _⟩ := hv; intro d hd; trivial)) (fun v hv => ?_); clear hq q; obtain ⟨pa, rfl, hpa⟩ := hv; refine hK _ ?_; clear hK K hx hn w2)
    | (refine wpD_opI rfl (fun w2 hx hn K hK => ?_); clear tk2; go_simp; refine relD_fl rfl (fun y2a hy1 => ?_) (fun _ _ d hd => trivial); refine hK _ ?_; clear hK K hx hn w2)
    | (refine wpD_opI rfl (fun w2 hx hn K hK => ?_); have hsv : b0 ≤ w2.heap.size := (by have := hx.size; simpa [hb0] using this); go_simp; refine ⟨(Ext.refl _).alloc _, fun _ => ⟨_, .inr ⟨rfl, y2a, rfl, by rw [hy1, hpa]; rfl⟩, Blk.new _ _ _⟩, ?_⟩; generalize w2.heap.size = nbv2 at *; refine hK _ ?_; clear hK K hx hn w2))
  refine wpD_nilI ?_
  intro w8 hx8 hR8
  have lc8 : nbc2 < w8.heap.size := by
    obtain ⟨cs, _, q⟩ := (show b0 ≤ nbc2 → ∃ cs, (fun d cs => (d = 53 ∧ cs = fls [4600639689341365271, 13826951575952896819, 4598550519514223957]) ∨ (d = 56 ∧ ∃ y, cs = #[.float .f64 y] ∧ can y = fbin BinOp.mul (can q3) (hornP (can q2) [4600639689341365271, 13826951575952896819, 4598550519514223957] 3))) 53 cs ∧ Blk w8 nbc2 tF cs from hR8 53) hsc
    exact q.lt
  have q8 : ∃ y, Blk w8 nbv2 tF #[.float .f64 y] ∧ can y = fbin BinOp.mul (can q3) (hornP (can q2) [4600639689341365271, 13826951575952896819, 4598550519514223957] 3) := by
    obtain ⟨cs, hc, q⟩ := (show b0 ≤ nbv2 → ∃ cs, (fun d cs => (d = 53 ∧ cs = fls [4600639689341365271, 13826951575952896819, 4598550519514223957]) ∨ (d = 56 ∧ ∃ y, cs = #[.float .f64 y] ∧ can y = fbin BinOp.mul (can q3) (hornP (can q2) [4600639689341365271, 13826951575952896819, 4598550519514223957] 3))) 56 cs ∧ Blk w8 nbv2 tF cs from hR8 56) hsv
    rcases hc with ⟨h, _⟩ | ⟨_, y, rfl, hy⟩
    · exact absurd h (by decide)
    · exact ⟨y, q, hy⟩
  clear hR8 hy1 hpa hsc hsv
  obtain ⟨y2a, q8, ey2a⟩ := q8
  have e8 : Ext wk1 w8 := bareN hx8 rfl rfl rfl rfl
  have hb8 := hb.ext e8
  have hz8 := hz.ext e8
  have ho8 := owns_ext' ho e8
  have hw8 := hw.trans e8
  have hsz8 : bA ≤ w8.heap.size := Nat.le_trans hsz e8.size
  have s8 := e8.size
  clear hx8 e8 hb ho hw hz
  refine wpList_append_lies w8 rfl _ _ 93 rfl bA 41 i0 (.float .f64 0) 1 8 Tryz.underlying93 hi hz0 hz1 hz2 rfl (by decide) _ 1 [.float .f64 y1a] rfl ho8 ⟨nbv2, 0, none⟩ 1 1 [.float .f64 y2a] rfl rfl ?_ ?_ (by decide) (by unfold maxLen; omega) (by omega) hsz8 _ rfl ?_
  · intro j u hj
    match j, hj with
    | 0, hj => simp at hj; subst hj; simpa [Addr.add] using q8.cell 0
  · intro u hu; simp at hu; subst hu; rfl
  intro g2 cap2 w9 hn hg _ _
  replace hg : w8.grownBy w9 (Value.ownBlock (.slice (some ⟨g1, 0, none⟩) 1 cap1)) := hg
  obtain ⟨hwN, hbN, hoN, hsN, hb9, hkN, hk9⟩ := after_append (i := 1) hw8 hb8 ho8 (by omega) (by omega) hsz8 hn hg
  have cR := hb9.cell
  have fR := hb9.frozen
  have lv8 := q8.lt
  clear q8 hb8 ho8 hw8 hn hg hb9
  go_wp2_with fail
  have hz : Blk (w9.setCell ⟨w.heap.size + 1 + 1, 1, none⟩ (.slice (some ⟨g2, 0, none⟩) (1 + 1) cap2)) (w.heap.size + 1) 95 #[.float .f64 0, .slice none 0 0, .slice none 0 0] := (hkN _ (by omega) (by omega)).trans hz8
  clear cR fR hkN hk9 hz8
  generalize w9.setCell ⟨w.heap.size + 1 + 1, 1, none⟩ (.slice (some ⟨g2, 0, none⟩) (1 + 1) cap2) = wk2 at *
  have hw := hwN
  have ho : wk2.ownsRow bA tF 1 (.slice (some ⟨g2, 0, none⟩) 2 cap2) 2 [.float .f64 y1a, .float .f64 y2a] := hoN
  have hb : Blk wk2 (w.heap.size + 1 + 1) 95 #[.float .f64 r, .slice (some ⟨g2, 0, none⟩) 2 cap2, .slice none 0 0] := hbN
  have hsz : bA ≤ wk2.heap.size := Nat.le_trans hsz8 hsN
  have lt2 : g2 < wk2.heap.size := ((ho.lt _ rfl).2)
  have ltc2 : nbc2 < wk2.heap.size := by omega
  have ltv2 : nbv2 < wk2.heap.size := by omega
  replace lt1 : g1 < wk2.heap.size := by omega
  replace ltc1 : nbc1 < wk2.heap.size := by omega
  replace ltv1 : nbv1 < wk2.heap.size := by omega
  clear hwN hoN hbN hsN hsz8 s8 hb0 lc8 lv8 ng1 nc1 nv1
  clear b0
  -- region 3
  have tk1 : Hid True := trivial
  have tk2 : Hid True := trivial
  obtain ⟨b0, hb0⟩ : ∃ b0, b0 = wk2.heap.size := ⟨_, rfl⟩
  have ng1 : ¬ b0 ≤ g1 := by omega
  have nc1 : ¬ b0 ≤ nbc1 := by omega
  have nv1 : ¬ b0 ≤ nbv1 := by omega
  have ng2 : ¬ b0 ≤ g2 := by omega
  have nc2 : ¬ b0 ≤ nbc2 := by omega
  have nv2 : ¬ b0 ≤ nbv2 := by omega
  refine wp_region_toldI 10 (fun g _ v => g = 76 ∧ isFl (hornP (can q2) [13828173981566040240, 4598250279539065924] 2) v) (SlI b0 tF (fun d cs => (d = 63 ∧ cs = fls [13828173981566040240, 4598250279539065924]) ∨ (d = 68 ∧ ∃ y y', cs = #[.float .f64 y, .float .f64 y'] ∧ can y = fbin BinOp.mul (can q4) (hornP (can q2) [13828173981566040240, 4598250279539065924] 2) ∧ can y' = fbin BinOp.mul (can q5) (can 4599207406156301484)))) (told_slI _ _ _) (by kernel_rfl) (by kernel_rfl) (told_allI (fun _ => trivial) ?_) ?_
  · simp [go_sem, slI_slice, ng1, nc1, nv1, ng2, nc2, nv2]
  repeat (first
    | (refine wpD_opI rfl (fun w2 hx hn K hK => ?_); have k2 := (hb.ext (bareN hx rfl rfl rfl rfl)).cell; go_simp; refine hK _ ?_; clear hK K k2 hx hn w2)
    | (refine wpD_opI rfl (fun w2 hx hn K hK => ?_); have k2 := (hb.ext (bareN hx rfl rfl rfl rfl)).cell; go_simp; simp only [slI_slice]; refine ⟨fun h => absurd h (by omega), ?_⟩; refine hK _ ?_; clear hK K k2 hx hn w2)
    | (refine wpD_opI rfl (fun w2 hx hn K hK => ?_); clear tk1; have hsc : b0 ≤ w2.heap.size := (by have := hx.size; simpa [hb0] using this); go_simp; refine ⟨(Ext.refl _).alloc _, fun _ => ⟨_, .inl ⟨rfl, rfl⟩, Blk.new _ _ _⟩, ?_⟩; generalize w2.heap.size = nbc3 at *; refine hK _ ?_; clear hK K hx hn w2)
    | (refine wpD_opI rfl (fun w2 hx hn K hK => ?_); have q : Blk w2 nbc3 tF (fls [13828173981566040240, 4598250279539065924]) := (by obtain ⟨cs, hc, q⟩ := (show b0 ≤ nbc3 → ∃ cs, (fun d cs => (d = 63 ∧ cs = fls [13828173981566040240, 4598250279539065924]) ∨ (d = 68 ∧ ∃ y y', cs = #[.float .f64 y, .float .f64 y'] ∧ can y = fbin BinOp.mul (can q4) (hornP (can q2) [13828173981566040240, 4598250279539065924] 2) ∧ can y' = fbin BinOp.mul (can q5) (can 4599207406156301484))) 63 cs ∧ Blk w2 nbc3 tF cs from hn 63 (by decide)) hsc; rcases hc with ⟨_, rfl⟩ | ⟨h, _⟩; exact q; exact absurd h (by decide)); go_simp; have hq := horner_c q2 [13828173981566040240, 4598250279539065924] nbc3 2 tF w2 q (by decide); refine relD_call (FlR.call hq) (fun v => ⟨fun h => ⟨rfl, h⟩, fun h => h.2⟩) (fun v w hv => (by obtain ⟨_, rfl, _⟩ := hv; intro d hd; trivial)) (fun v hv => ?_); clear hq q; obtain ⟨pa, rfl, hpa⟩ := hv; refine hK _ ?_; clear hK K hx hn w2)
    | (refine wpD_opI rfl (fun w2 hx hn K hK => ?_); clear tk2; go_simp; refine relD_fl rfl (fun y3a hy1 => ?_) (fun _ _ d hd => trivial); refine hK _ ?_; clear hK K hx hn w2)
    | (refine wpD_opI rfl (fun w2 hx hn K hK => ?_); go_simp; refine relD_fl rfl (fun y3b hy2 => ?_) (fun _ _ d hd => trivial); refine hK _ ?_; clear hK K hx hn w2)
    | (refine wpD_opI rfl (fun w2 hx hn K hK => ?_); have hsv : b0 ≤ w2.heap.size := (by have := hx.size; simpa [hb0] using this); go_simp; refine ⟨(Ext.refl _).alloc _, fun _ => ⟨_, .inr ⟨rfl, y3a, y3b, rfl, by rw [hy1, hpa]; rfl, hy2⟩, Blk.new _ _ _⟩, ?_⟩; generalize w2.heap.size = nbv3 at *; refine hK _ ?_; clear hK K hx hn w2))
  refine wpD_nilI ?_
  intro w8 hx8 hR8
  have lc8 : nbc3 < w8.heap.size := by
    obtain ⟨cs, _, q⟩ := (show b0 ≤ nbc3 → ∃ cs, (fun d cs => (d = 63 ∧ cs = fls [13828173981566040240, 4598250279539065924]) ∨ (d = 68 ∧ ∃ y y', cs = #[.float .f64 y, .float .f64 y'] ∧ can y = fbin BinOp.mul (can q4) (hornP (can q2) [13828173981566040240, 4598250279539065924] 2) ∧ can y' = fbin BinOp.mul (can q5) (can 4599207406156301484))) 63 cs ∧ Blk w8 nbc3 tF cs from hR8 63) hsc
    exact q.lt
  have q8 : ∃ y y', Blk w8 nbv3 tF #[.float .f64 y, .float .f64 y'] ∧ can y = fbin BinOp.mul (can q4) (hornP (can q2) [13828173981566040240, 4598250279539065924] 2) ∧ can y' = fbin BinOp.mul (can q5) (can 4599207406156301484) := by
    obtain ⟨cs, hc, q⟩ := (show b0 ≤ nbv3 → ∃ cs, (fun d cs => (d = 63 ∧ cs = fls [13828173981566040240, 4598250279539065924]) ∨ (d = 68 ∧ ∃ y y', cs = #[.float .f64 y, .float .f64 y'] ∧ can y = fbin BinOp.mul (can q4) (hornP (can q2) [13828173981566040240, 4598250279539065924] 2) ∧ can y' = fbin BinOp.mul (can q5) (can 4599207406156301484))) 68 cs ∧ Blk w8 nbv3 tF cs from hR8 68) hsv
    rcases hc with ⟨h, _⟩ | ⟨_, y, y', rfl, hy, hy'⟩
    · exact absurd h (by decide)
    · exact ⟨y, y', q, hy, hy'⟩
  clear hR8 hy1 hy2 hpa hsc hsv
  obtain ⟨y3a, y3b, q8, ey3a, ey3b⟩ := q8
  have e8 : Ext wk2 w8 := bareN hx8 rfl rfl rfl rfl
  have hb8 := hb.ext e8
  have hz8 := hz.ext e8
  have ho8 := owns_ext' ho e8
  have hw8 := hw.trans e8
  have hsz8 : bA ≤ w8.heap.size := Nat.le_trans hsz e8.size
  have s8 := e8.size
  clear hx8 e8 hb ho hw hz
  refine wpList_append_lies w8 rfl _ _ 93 rfl bA 41 i0 (.float .f64 0) 1 8 Tryz.underlying93 hi hz0 hz1 hz2 rfl (by decide) _ 2 [.float .f64 y1a, .float .f64 y2a] rfl ho8 ⟨nbv3, 0, none⟩ 2 2 [.float .f64 y3a, .float .f64 y3b] rfl rfl ?_ ?_ (by decide) (by unfold maxLen; omega) (by omega) hsz8 _ rfl ?_
  · intro j u hj
    match j, hj with
    | 0, hj => simp at hj; subst hj; simpa [Addr.add] using q8.cell 0
    | 1, hj => simp at hj; subst hj; simpa [Addr.add] using q8.cell 1
  · intro u hu; simp at hu; rcases hu with rfl | rfl <;> rfl
  intro g3 cap3 w9 hn hg _ _
  replace hg : w8.grownBy w9 (Value.ownBlock (.slice (some ⟨g2, 0, none⟩) 2 cap2)) := hg
  obtain ⟨hwN, hbN, hoN, hsN, hb9, hkN, hk9⟩ := after_append (i := 1) hw8 hb8 ho8 (by omega) (by omega) hsz8 hn hg
  have cR := hb9.cell
  have fR := hb9.frozen
  have lv8 := q8.lt
  clear q8 hb8 ho8 hw8 hn hg hb9
  go_wp2_with fail
  have hz : Blk (w9.setCell ⟨w.heap.size + 1 + 1, 1, none⟩ (.slice (some ⟨g3, 0, none⟩) (2 + 2) cap3)) (w.heap.size + 1) 95 #[.float .f64 0, .slice none 0 0, .slice none 0 0] := (hkN _ (by omega) (by omega)).trans hz8
  clear cR fR hkN hk9 hz8
  generalize w9.setCell ⟨w.heap.size + 1 + 1, 1, none⟩ (.slice (some ⟨g3, 0, none⟩) (2 + 2) cap3) = wk3 at *
  have hw := hwN
  have ho : wk3.ownsRow bA tF 1 (.slice (some ⟨g3, 0, none⟩) 4 cap3) 4 [.float .f64 y1a, .float .f64 y2a, .float .f64 y3a, .float .f64 y3b] := hoN
  have hb : Blk wk3 (w.heap.size + 1 + 1) 95 #[.float .f64 r, .slice (some ⟨g3, 0, none⟩) 4 cap3, .slice none 0 0] := hbN
  have hsz : bA ≤ wk3.heap.size := Nat.le_trans hsz8 hsN
  have lt3 : g3 < wk3.heap.size := ((ho.lt _ rfl).2)
  have ltc3 : nbc3 < wk3.heap.size := by omega
  have ltv3 : nbv3 < wk3.heap.size := by omega
  replace lt1 : g1 < wk3.heap.size := by omega
  replace ltc1 : nbc1 < wk3.heap.size := by omega
  replace ltv1 : nbv1 < wk3.heap.size := by omega
  replace lt2 : g2 < wk3.heap.size := by omega
  replace ltc2 : nbc2 < wk3.heap.size := by omega
  replace ltv2 : nbv2 < wk3.heap.size := by omega
  clear hwN hoN hbN hsN hsz8 s8 hb0 lc8 lv8 ng1 nc1 nv1 ng2 nc2 nv2
  clear b0
  have hoA := ho
  clear ho
  obtain ⟨bB, hbB⟩ : ∃ b, b = wk3.heap.size := ⟨_, rfl⟩
  have ltB : g3 < bB := by omega
  have hAB : bA ≤ bB := by omega
  have ho : wk3.ownsRow bB tF 1 (.slice none 0 0) 0 [] := World.ownsRow_nil _ _ _ _
  clear hsz
  have hsz : bB ≤ wk3.heap.size := by omega
  clear hbB
  -- region 4
  have tk1 : Hid True := trivial
  have tk2 : Hid True := trivial
  obtain ⟨b0, hb0⟩ : ∃ b0, b0 = wk3.heap.size := ⟨_, rfl⟩
  have ng1 : ¬ b0 ≤ g1 := by omega
  have nc1 : ¬ b0 ≤ nbc1 := by omega
  have nv1 : ¬ b0 ≤ nbv1 := by omega
  have ng2 : ¬ b0 ≤ g2 := by omega
  have nc2 : ¬ b0 ≤ nbc2 := by omega
  have nv2 : ¬ b0 ≤ nbv2 := by omega
  have ng3 : ¬ b0 ≤ g3 := by omega
  have nc3 : ¬ b0 ≤ nbc3 := by omega
  have nv3 : ¬ b0 ≤ nbv3 := by omega
  refine wp_region_toldI 8 (fun g _ v => g = 76 ∧ isFl (hornP (can q2) [13791923578851126295, 4600614669343435435, 13827552055903212885, 4602678819172646912] 4) v) (SlI b0 tF (fun d cs => (d = 75 ∧ cs = fls [13791923578851126295, 4600614669343435435, 13827552055903212885, 4602678819172646912]) ∨ (d = 78 ∧ ∃ y, cs = #[.float .f64 y] ∧ can y = fbin BinOp.mul (can q2) (hornP (can q2) [13791923578851126295, 4600614669343435435, 13827552055903212885, 4602678819172646912] 4)))) (told_slI _ _ _) (by kernel_rfl) (by kernel_rfl) (told_allI (fun _ => trivial) ?_) ?_
  · simp [go_sem, slI_slice, ng1, nc1, nv1, ng2, nc2, nv2, ng3, nc3, nv3]
  repeat (first
    | (refine wpD_opI rfl (fun w2 hx hn K hK => ?_); have k2 := (hb.ext (bareN hx rfl rfl rfl rfl)).cell; go_simp; refine hK _ ?_; clear hK K k2 hx hn w2)
    | (refine wpD_opI rfl (fun w2 hx hn K hK => ?_); have k2 := (hb.ext (bareN hx rfl rfl rfl rfl)).cell; go_simp; simp only [slI_slice]; refine ⟨fun h => absurd h (by omega), ?_⟩; refine hK _ ?_; clear hK K k2 hx hn w2)
    | (refine wpD_opI rfl (fun w2 hx hn K hK => ?_); clear tk1; have hsc : b0 ≤ w2.heap.size := (by have := hx.size; simpa [hb0] using this); go_simp; refine ⟨(Ext.refl _).alloc _, fun _ => ⟨_, .inl ⟨rfl, rfl⟩, Blk.new _ _ _⟩, ?_⟩; generalize w2.heap.size = nbc4 at *; refine hK _ ?_; clear hK K hx hn w2)
    | (refine wpD_opI rfl (fun w2 hx hn K hK => ?_); have q : Blk w2 nbc4 tF (fls [13791923578851126295, 4600614669343435435, 13827552055903212885, 4602678819172646912]) := (by obtain ⟨cs, hc, q⟩ := (show b0 ≤ nbc4 → ∃ cs, (fun d cs => (d = 75 ∧ cs = fls [13791923578851126295, 4600614669343435435, 13827552055903212885, 4602678819172646912]) ∨ (d = 78 ∧ ∃ y, cs = #[.float .f64 y] ∧ can y = fbin BinOp.mul (can q2) (hornP (can q2) [13791923578851126295, 4600614669343435435, 13827552055903212885, 4602678819172646912] 4))) 75 cs ∧ Blk w2 nbc4 tF cs from hn 75 (by decide)) hsc; rcases hc with ⟨_, rfl⟩ | ⟨h, _⟩; exact q; exact absurd h (by decide)); go_simp; have hq := horner_c q2 [13791923578851126295, 4600614669343435435, 13827552055903212885, 4602678819172646912] nbc4 4 tF w2 q (by decide); refine relD_call (FlR.call hq) (fun v => ⟨fun h => ⟨rfl, h⟩, fun h => h.2⟩) (fun v w hv => (by obtain ⟨_, rfl, _⟩ := hv; intro d hd; trivial)) (fun v hv => ?_); clear hq q; obtain ⟨pa, rfl, hpa⟩ := hv; refine hK _ ?_; clear hK K hx hn w2)
    | (refine wpD_opI rfl (fun w2 hx hn K hK => ?_); clear tk2; go_simp; refine relD_fl rfl (fun y4a hy1 => ?_) (fun _ _ d hd => trivial); refine hK _ ?_; clear hK K hx hn w2)
    | (refine wpD_opI rfl (fun w2 hx hn K hK => ?_); have hsv : b0 ≤ w2.heap.size := (by have := hx.size; simpa [hb0] using this); go_simp; refine ⟨(Ext.refl _).alloc _, fun _ => ⟨_, .inr ⟨rfl, y4a, rfl, by rw [hy1, hpa]; rfl⟩, Blk.new _ _ _⟩, ?_⟩; generalize w2.heap.size = nbv4 at *; refine hK _ ?_; clear hK K hx hn w2))
  refine wpD_nilI ?_
  intro w8 hx8 hR8
  have lc8 : nbc4 < w8.heap.size := by
    obtain ⟨cs, _, q⟩ := (show b0 ≤ nbc4 → ∃ cs, (fun d cs => (d = 75 ∧ cs = fls [13791923578851126295, 4600614669343435435, 13827552055903212885, 4602678819172646912]) ∨ (d = 78 ∧ ∃ y, cs = #[.float .f64 y] ∧ can y = fbin BinOp.mul (can q2) (hornP (can q2) [13791923578851126295, 4600614669343435435, 13827552055903212885, 4602678819172646912] 4))) 75 cs ∧ Blk w8 nbc4 tF cs from hR8 75) hsc
    exact q.lt
  have q8 : ∃ y, Blk w8 nbv4 tF #[.float .f64 y] ∧ can y = fbin BinOp.mul (can q2) (hornP (can q2) [13791923578851126295, 4600614669343435435, 13827552055903212885, 4602678819172646912] 4) := by
    obtain ⟨cs, hc, q⟩ := (show b0 ≤ nbv4 → ∃ cs, (fun d cs => (d = 75 ∧ cs = fls [13791923578851126295, 4600614669343435435, 13827552055903212885, 4602678819172646912]) ∨ (d = 78 ∧ ∃ y, cs = #[.float .f64 y] ∧ can y = fbin BinOp.mul (can q2) (hornP (can q2) [13791923578851126295, 4600614669343435435, 13827552055903212885, 4602678819172646912] 4))) 78 cs ∧ Blk w8 nbv4 tF cs from hR8 78) hsv
    rcases hc with ⟨h, _⟩ | ⟨_, y, rfl, hy⟩
    · exact absurd h (by decide)
    · exact ⟨y, q, hy⟩
  clear hR8 hy1 hpa hsc hsv
  obtain ⟨y4a, q8, ey4a⟩ := q8
  have e8 : Ext wk3 w8 := bareN hx8 rfl rfl rfl rfl
  have hb8 := hb.ext e8
  have hz8 := hz.ext e8
  have ho8 := owns_ext' ho e8
  have hw8 := hw.trans e8
  have hsz8 : bB ≤ w8.heap.size := Nat.le_trans hsz e8.size
  have s8 := e8.size
  have hoA8 := owns_ext' hoA e8
  clear hx8 e8 hb ho hw hz hoA
  refine wpList_append_lies w8 rfl _ _ 93 rfl bB 41 i0 (.float .f64 0) 1 8 Tryz.underlying93 hi hz0 hz1 hz2 rfl (by decide) _ 0 [] rfl ho8 ⟨nbv4, 0, none⟩ 1 1 [.float .f64 y4a] rfl rfl ?_ ?_ (by decide) (by unfold maxLen; omega) (by omega) hsz8 _ rfl ?_
  · intro j u hj
    match j, hj with
    | 0, hj => simp at hj; subst hj; simpa [Addr.add] using q8.cell 0
  · intro u hu; simp at hu; subst hu; rfl
  intro g4 cap4 w9 hn hg _ _
  replace hg : w8.grownBy w9 (Value.ownBlock (.slice none 0 0)) := hg
  obtain ⟨hwN, hbN, hoN, hsN, hb9, hkN, hk9⟩ := after_append (i := 2) hw8 hb8 ho8 (by omega) (by omega) hsz8 hn hg
  have hoAN := ownsRow_setCell_below (a := ⟨w.heap.size + 1 + 1, 2, none⟩) (hoA8.kept hg (.inr (by simp [Value.ownBlock]; try omega))) (by show w.heap.size + 1 + 1 < bA; omega) (.slice (some ⟨g4, 0, none⟩) (0 + 1) cap4)
  have cR := hb9.cell
  have fR := hb9.frozen
  have lv8 := q8.lt
  clear q8 hb8 ho8 hw8 hn hg hb9 hoA8
  go_wp2_with fail
  have hz : Blk (w9.setCell ⟨w.heap.size + 1 + 1, 2, none⟩ (.slice (some ⟨g4, 0, none⟩) (0 + 1) cap4)) (w.heap.size + 1) 95 #[.float .f64 0, .slice none 0 0, .slice none 0 0] := (hkN _ (by omega) (by omega)).trans hz8
  clear cR fR hkN hk9 hz8
  generalize w9.setCell ⟨w.heap.size + 1 + 1, 2, none⟩ (.slice (some ⟨g4, 0, none⟩) (0 + 1) cap4) = wk4 at *
  have hw := hwN
  have ho : wk4.ownsRow bB tF 1 (.slice (some ⟨g4, 0, none⟩) 1 cap4) 1 [.float .f64 y4a] := hoN
  have hoA := hoAN
  have hb : Blk wk4 (w.heap.size + 1 + 1) 95 #[.float .f64 r, .slice (some ⟨g3, 0, none⟩) 4 cap3, .slice (some ⟨g4, 0, none⟩) 1 cap4] := hbN
  have hsz : bB ≤ wk4.heap.size := Nat.le_trans hsz8 hsN
  have lt4 : g4 < wk4.heap.size := ((ho.lt _ rfl).2)
  have ltc4 : nbc4 < wk4.heap.size := by omega
  have ltv4 : nbv4 < wk4.heap.size := by omega
  replace lt1 : g1 < wk4.heap.size := by omega
  replace ltc1 : nbc1 < wk4.heap.size := by omega
  replace ltv1 : nbv1 < wk4.heap.size := by omega
  replace lt2 : g2 < wk4.heap.size := by omega
  replace ltc2 : nbc2 < wk4.heap.size := by omega
  replace ltv2 : nbv2 < wk4.heap.size := by omega
  replace lt3 : g3 < wk4.heap.size := by omega
  replace ltc3 : nbc3 < wk4.heap.size := by omega
  replace ltv3 : nbv3 < wk4.heap.size := by omega
  clear hwN hoN hbN hsN hsz8 s8 hb0 lc8 lv8 hoAN ng1 nc1 nv1 ng2 nc2 nv2 ng3 nc3 nv3
  clear b0
  -- region 5
  have tk1 : Hid True := trivial
  have tk2 : Hid True := trivial
  obtain ⟨b0, hb0⟩ : ∃ b0, b0 = wk4.heap.size := ⟨_, rfl⟩
  have ng1 : ¬ b0 ≤ g1 := by omega
  have nc1 : ¬ b0 ≤ nbc1 := by omega
  have nv1 : ¬ b0 ≤ nbv1 := by omega
  have ng2 : ¬ b0 ≤ g2 := by omega
  have nc2 : ¬ b0 ≤ nbc2 := by omega
  have nv2 : ¬ b0 ≤ nbv2 := by omega
  have ng3 : ¬ b0 ≤ g3 := by omega
  have nc3 : ¬ b0 ≤ nbc3 := by omega
  have nv3 : ¬ b0 ≤ nbv3 := by omega
  have ng4 : ¬ b0 ≤ g4 := by omega
  have nc4 : ¬ b0 ≤ nbc4 := by omega
  have nv4 : ¬ b0 ≤ nbv4 := by omega
  refine wp_region_toldI 8 (fun g _ v => g = 76 ∧ isFl (hornP (can q2) [13822510526320350913, 4589468260265693457, 4581662020911584597] 3) v) (SlI b0 tF (fun d cs => (d = 85 ∧ cs = fls [13822510526320350913, 4589468260265693457, 4581662020911584597]) ∨ (d = 88 ∧ ∃ y, cs = #[.float .f64 y] ∧ can y = fbin BinOp.mul (can q3) (hornP (can q2) [13822510526320350913, 4589468260265693457, 4581662020911584597] 3)))) (told_slI _ _ _) (by kernel_rfl) (by kernel_rfl) (told_allI (fun _ => trivial) ?_) ?_
  · simp [go_sem, slI_slice, ng1, nc1, nv1, ng2, nc2, nv2, ng3, nc3, nv3, ng4, nc4, nv4]
  repeat (first
    | (refine wpD_opI rfl (fun w2 hx hn K hK => ?_); have k2 := (hb.ext (bareN hx rfl rfl rfl rfl)).cell; go_simp; refine hK _ ?_; clear hK K k2 hx hn w2)
    | (refine wpD_opI rfl (fun w2 hx hn K hK => ?_); have k2 := (hb.ext (bareN hx rfl rfl rfl rfl)).cell; go_simp; simp only [slI_slice]; refine ⟨fun h => absurd h (by omega), ?_⟩; refine hK _ ?_; clear hK K k2 hx hn w2)
    | (refine wpD_opI rfl (fun w2 hx hn K hK => ?_); clear tk1; have hsc : b0 ≤ w2.heap.size := (by have := hx.size; simpa [hb0] using this); go_simp; refine ⟨(Ext.refl _).alloc _, fun _ => ⟨_, .inl ⟨rfl, rfl⟩, Blk.new _ _ _⟩, ?_⟩; generalize w2.heap.size = nbc5 at *; refine hK _ ?_; clear hK K hx hn w2)
    | (refine wpD_opI rfl (fun w2 hx hn K hK => ?_); have q : Blk w2 nbc5 tF (fls [13822510526320350913, 4589468260265693457, 4581662020911584597]) := (by obtain ⟨cs, hc, q⟩ := (show b0 ≤ nbc5 → ∃ cs, (fun d cs => (d = 85 ∧ cs = fls [13822510526320350913, 4589468260265693457, 4581662020911584597]) ∨ (d = 88 ∧ ∃ y, cs = #[.float .f64 y] ∧ can y = fbin BinOp.mul (can q3) (hornP (can q2) [13822510526320350913, 4589468260265693457, 4581662020911584597] 3))) 85 cs ∧ Blk w2 nbc5 tF cs from hn 85 (by decide)) hsc; rcases hc with ⟨_, rfl⟩ | ⟨h, _⟩; exact q; exact absurd h (by decide)); go_simp; have hq := horner_c q2 [13822510526320350913, 4589468260265693457, 4581662020911584597] nbc5 3 tF w2 q (by decide); refine relD_call (FlR.call hq) (fun v => ⟨fun h => ⟨rfl, h⟩, fun h => h.2⟩) (fun v w hv => (by obtain ⟨_, rfl, _⟩ := hv; intro d hd; trivial)) (fun v hv => ?_); clear hq q; obtain ⟨pa, rfl, hpa⟩ := hv; refine hK _ ?_; clear hK K hx hn w2)
    | (refine wpD_opI rfl (fun w2 hx hn K hK => ?_); clear tk2; go_simp; refine relD_fl rfl (fun y5a hy1 => ?_) (fun _ _ d hd => trivial); refine hK _ ?_; clear hK K hx hn w2)
    | (refine wpD_opI rfl (fun w2 hx hn K hK => ?_); have hsv : b0 ≤ w2.heap.size := (by have := hx.size; simpa [hb0] using this); go_simp; refine ⟨(Ext.refl _).alloc _, fun _ => ⟨_, .inr ⟨rfl, y5a, rfl, by rw [hy1, hpa]; rfl⟩, Blk.new _ _ _⟩, ?_⟩; generalize w2.heap.size = nbv5 at *; refine hK _ ?_; clear hK K hx hn w2))
  refine wpD_nilI ?_
  intro w8 hx8 hR8
  have lc8 : nbc5 < w8.heap.size := by
    obtain ⟨cs, _, q⟩ := (show b0 ≤ nbc5 → ∃ cs, (fun d cs => (d = 85 ∧ cs = fls [13822510526320350913, 4589468260265693457, 4581662020911584597]) ∨ (d = 88 ∧ ∃ y, cs = #[.float .f64 y] ∧ can y = fbin BinOp.mul (can q3) (hornP (can q2) [13822510526320350913, 4589468260265693457, 4581662020911584597] 3))) 85 cs ∧ Blk w8 nbc5 tF cs from hR8 85) hsc
    exact q.lt
  have q8 : ∃ y, Blk w8 nbv5 tF #[.float .f64 y] ∧ can y = fbin BinOp.mul (can q3) (hornP (can q2) [13822510526320350913, 4589468260265693457, 4581662020911584597] 3) := by
    obtain ⟨cs, hc, q⟩ := (show b0 ≤ nbv5 → ∃ cs, (fun d cs => (d = 85 ∧ cs = fls [13822510526320350913, 4589468260265693457, 4581662020911584597]) ∨ (d = 88 ∧ ∃ y, cs = #[.float .f64 y] ∧ can y = fbin BinOp.mul (can q3) (hornP (can q2) [13822510526320350913, 4589468260265693457, 4581662020911584597] 3))) 88 cs ∧ Blk w8 nbv5 tF cs from hR8 88) hsv
    rcases hc with ⟨h, _⟩ | ⟨_, y, rfl, hy⟩
    · exact absurd h (by decide)
    · exact ⟨y, q, hy⟩
  clear hR8 hy1 hpa hsc hsv
  obtain ⟨y5a, q8, ey5a⟩ := q8
  have e8 : Ext wk4 w8 := bareN hx8 rfl rfl rfl rfl
  have hb8 := hb.ext e8
  have hz8 := hz.ext e8
  have ho8 := owns_ext' ho e8
  have hw8 := hw.trans e8
  have hsz8 : bB ≤ w8.heap.size := Nat.le_trans hsz e8.size
  have s8 := e8.size
  have hoA8 := owns_ext' hoA e8
  have gB5 : bB ≤ g4 := (ho8.lt _ rfl).1
  clear hx8 e8 hb ho hw hz hoA
  refine wpList_append_lies w8 rfl _ _ 93 rfl bB 41 i0 (.float .f64 0) 1 8 Tryz.underlying93 hi hz0 hz1 hz2 rfl (by decide) _ 1 [.float .f64 y4a] rfl ho8 ⟨nbv5, 0, none⟩ 1 1 [.float .f64 y5a] rfl rfl ?_ ?_ (by decide) (by unfold maxLen; omega) (by omega) hsz8 _ rfl ?_
  · intro j u hj
    match j, hj with
    | 0, hj => simp at hj; subst hj; simpa [Addr.add] using q8.cell 0
  · intro u hu; simp at hu; subst hu; rfl
  intro g5 cap5 w9 hn hg _ _
  replace hg : w8.grownBy w9 (Value.ownBlock (.slice (some ⟨g4, 0, none⟩) 1 cap4)) := hg
  obtain ⟨hwN, hbN, hoN, hsN, hb9, hkN, hk9⟩ := after_append (i := 2) hw8 hb8 ho8 (by omega) (by omega) hsz8 hn hg
  have hoAN := ownsRow_setCell_below (a := ⟨w.heap.size + 1 + 1, 2, none⟩) (hoA8.kept hg (.inr (by simp [Value.ownBlock]; try omega))) (by show w.heap.size + 1 + 1 < bA; omega) (.slice (some ⟨g5, 0, none⟩) (1 + 1) cap5)
  have cR := hb9.cell
  have fR := hb9.frozen
  have lv8 := q8.lt
  clear q8 hb8 ho8 hw8 hn hg hb9 hoA8
  go_wp2_with fail
  have hz : Blk (w9.setCell ⟨w.heap.size + 1 + 1, 2, none⟩ (.slice (some ⟨g5, 0, none⟩) (1 + 1) cap5)) (w.heap.size + 1) 95 #[.float .f64 0, .slice none 0 0, .slice none 0 0] := (hkN _ (by omega) (by omega)).trans hz8
  clear cR fR hkN hk9 hz8
  generalize w9.setCell ⟨w.heap.size + 1 + 1, 2, none⟩ (.slice (some ⟨g5, 0, none⟩) (1 + 1) cap5) = wk5 at *
  have hw := hwN
  have ho : wk5.ownsRow bB tF 1 (.slice (some ⟨g5, 0, none⟩) 2 cap5) 2 [.float .f64 y4a, .float .f64 y5a] := hoN
  have hoA := hoAN
  have hb : Blk wk5 (w.heap.size + 1 + 1) 95 #[.float .f64 r, .slice (some ⟨g3, 0, none⟩) 4 cap3, .slice (some ⟨g5, 0, none⟩) 2 cap5] := hbN
  have hsz : bB ≤ wk5.heap.size := Nat.le_trans hsz8 hsN
  have lt5 : g5 < wk5.heap.size := ((ho.lt _ rfl).2)
  have ltc5 : nbc5 < wk5.heap.size := by omega
  have ltv5 : nbv5 < wk5.heap.size := by omega
  replace lt1 : g1 < wk5.heap.size := by omega
  replace ltc1 : nbc1 < wk5.heap.size := by omega
  replace ltv1 : nbv1 < wk5.heap.size := by omega
  replace lt2 : g2 < wk5.heap.size := by omega
  replace ltc2 : nbc2 < wk5.heap.size := by omega
  replace ltv2 : nbv2 < wk5.heap.size := by omega
  replace lt3 : g3 < wk5.heap.size := by omega
  replace ltc3 : nbc3 < wk5.heap.size := by omega
  replace ltv3 : nbv3 < wk5.heap.size := by omega
  replace lt4 : g4 < wk5.heap.size := by omega
  replace ltc4 : nbc4 < wk5.heap.size := by omega
  replace ltv4 : nbv4 < wk5.heap.size := by omega
  clear hwN hoN hbN hsN hsz8 s8 hb0 lc8 lv8 hoAN ng1 nc1 nv1 ng2 nc2 nv2 ng3 nc3 nv3 ng4 nc4 nv4
  clear b0
  -- region 6
  have tk1 : Hid True := trivial
  have tk2 : Hid True := trivial
  obtain ⟨b0, hb0⟩ : ∃ b0, b0 = wk5.heap.size := ⟨_, rfl⟩
  have ng1 : ¬ b0 ≤ g1 := by omega
  have nc1 : ¬ b0 ≤ nbc1 := by omega
  have nv1 : ¬ b0 ≤ nbv1 := by omega
  have ng2 : ¬ b0 ≤ g2 := by omega
  have nc2 : ¬ b0 ≤ nbc2 := by omega
  have nv2 : ¬ b0 ≤ nbv2 := by omega
  have ng3 : ¬ b0 ≤ g3 := by omega
  have nc3 : ¬ b0 ≤ nbc3 := by omega
  have nv3 : ¬ b0 ≤ nbv3 := by omega
  have ng4 : ¬ b0 ≤ g4 := by omega
  have nc4 : ¬ b0 ≤ nbc4 := by omega
  have nv4 : ¬ b0 ≤ nbv4 := by omega
  have ng5 : ¬ b0 ≤ g5 := by omega
  have nc5 : ¬ b0 ≤ nbc5 := by omega
  have nv5 : ¬ b0 ≤ nbv5 := by omega
  refine wp_region_toldI 10 (fun g _ v => g = 76 ∧ isFl (hornP (can q2) [13809880788793911511, 4585264900613480994] 2) v) (SlI b0 tF (fun d cs => (d = 95 ∧ cs = fls [13809880788793911511, 4585264900613480994]) ∨ (d = 100 ∧ ∃ y y', cs = #[.float .f64 y, .float .f64 y'] ∧ can y = fbin BinOp.mul (can q4) (hornP (can q2) [13809880788793911511, 4585264900613480994] 2) ∧ can y' = fbin BinOp.mul (can q5) (can 4583515287901101742)))) (told_slI _ _ _) (by kernel_rfl) (by kernel_rfl) (told_allI (fun _ => trivial) ?_) ?_
  · simp [go_sem, slI_slice, ng1, nc1, nv1, ng2, nc2, nv2, ng3, nc3, nv3, ng4, nc4, nv4, ng5, nc5, nv5]
  repeat (first
    | (refine wpD_opI rfl (fun w2 hx hn K hK => ?_); have k2 := (hb.ext (bareN hx rfl rfl rfl rfl)).cell; go_simp; refine hK _ ?_; clear hK K k2 hx hn w2)
    | (refine wpD_opI rfl (fun w2 hx hn K hK => ?_); have k2 := (hb.ext (bareN hx rfl rfl rfl rfl)).cell; go_simp; simp only [slI_slice]; refine ⟨fun h => absurd h (by omega), ?_⟩; refine hK _ ?_; clear hK K k2 hx hn w2)
    | (refine wpD_opI rfl (fun w2 hx hn K hK => ?_); clear tk1; have hsc : b0 ≤ w2.heap.size := (by have := hx.size; simpa [hb0] using this); go_simp; refine ⟨(Ext.refl _).alloc _, fun _ => ⟨_, .inl ⟨rfl, rfl⟩, Blk.new _ _ _⟩, ?_⟩; generalize w2.heap.size = nbc6 at *; refine hK _ ?_; clear hK K hx hn w2)
    | (refine wpD_opI rfl (fun w2 hx hn K hK => ?_); have q : Blk w2 nbc6 tF (fls [13809880788793911511, 4585264900613480994]) := (by obtain ⟨cs, hc, q⟩ := (show b0 ≤ nbc6 → ∃ cs, (fun d cs => (d = 95 ∧ cs = fls [13809880788793911511, 4585264900613480994]) ∨ (d = 100 ∧ ∃ y y', cs = #[.float .f64 y, .float .f64 y'] ∧ can y = fbin BinOp.mul (can q4) (hornP (can q2) [13809880788793911511, 4585264900613480994] 2) ∧ can y' = fbin BinOp.mul (can q5) (can 4583515287901101742))) 95 cs ∧ Blk w2 nbc6 tF cs from hn 95 (by decide)) hsc; rcases hc with ⟨_, rfl⟩ | ⟨h, _⟩; exact q; exact absurd h (by decide)); go_simp; have hq := horner_c q2 [13809880788793911511, 4585264900613480994] nbc6 2 tF w2 q (by decide); refine relD_call (FlR.call hq) (fun v => ⟨fun h => ⟨rfl, h⟩, fun h => h.2⟩) (fun v w hv => (by obtain ⟨_, rfl, _⟩ := hv; intro d hd; trivial)) (fun v hv => ?_); clear hq q; obtain ⟨pa, rfl, hpa⟩ := hv; refine hK _ ?_; clear hK K hx hn w2)
    | (refine wpD_opI rfl (fun w2 hx hn K hK => ?_); clear tk2; go_simp; refine relD_fl rfl (fun y6a hy1 => ?_) (fun _ _ d hd => trivial); refine hK _ ?_; clear hK K hx hn w2)
    | (refine wpD_opI rfl (fun w2 hx hn K hK => ?_); go_simp; refine relD_fl rfl (fun y6b hy2 => ?_) (fun _ _ d hd => trivial); refine hK _ ?_; clear hK K hx hn w2)
    | (refine wpD_opI rfl (fun w2 hx hn K hK => ?_); have hsv : b0 ≤ w2.heap.size := (by have := hx.size; simpa [hb0] using this); go_simp; refine ⟨(Ext.refl _).alloc _, fun _ => ⟨_, .inr ⟨rfl, y6a, y6b, rfl, by rw [hy1, hpa]; rfl, hy2⟩, Blk.new _ _ _⟩, ?_⟩; generalize w2.heap.size = nbv6 at *; refine hK _ ?_; clear hK K hx hn w2))
  refine wpD_nilI ?_
  intro w8 hx8 hR8
  have lc8 : nbc6 < w8.heap.size := by
    obtain ⟨cs, _, q⟩ := (show b0 ≤ nbc6 → ∃ cs, (fun d cs => (d = 95 ∧ cs = fls [13809880788793911511, 4585264900613480994]) ∨ (d = 100 ∧ ∃ y y', cs = #[.float .f64 y, .float .f64 y'] ∧ can y = fbin BinOp.mul (can q4) (hornP (can q2) [13809880788793911511, 4585264900613480994] 2) ∧ can y' = fbin BinOp.mul (can q5) (can 4583515287901101742))) 95 cs ∧ Blk w8 nbc6 tF cs from hR8 95) hsc
    exact q.lt
  have q8 : ∃ y y', Blk w8 nbv6 tF #[.float .f64 y, .float .f64 y'] ∧ can y = fbin BinOp.mul (can q4) (hornP (can q2) [13809880788793911511, 4585264900613480994] 2) ∧ can y' = fbin BinOp.mul (can q5) (can 4583515287901101742) := by
    obtain ⟨cs, hc, q⟩ := (show b0 ≤ nbv6 → ∃ cs, (fun d cs => (d = 95 ∧ cs = fls [13809880788793911511, 4585264900613480994]) ∨ (d = 100 ∧ ∃ y y', cs = #[.float .f64 y, .float .f64 y'] ∧ can y = fbin BinOp.mul (can q4) (hornP (can q2) [13809880788793911511, 4585264900613480994] 2) ∧ can y' = fbin BinOp.mul (can q5) (can 4583515287901101742))) 100 cs ∧ Blk w8 nbv6 tF cs from hR8 100) hsv
    rcases hc with ⟨h, _⟩ | ⟨_, y, y', rfl, hy, hy'⟩
    · exact absurd h (by decide)
    · exact ⟨y, y', q, hy, hy'⟩
  clear hR8 hy1 hy2 hpa hsc hsv
  obtain ⟨y6a, y6b, q8, ey6a, ey6b⟩ := q8
  have e8 : Ext wk5 w8 := bareN hx8 rfl rfl rfl rfl
  have hb8 := hb.ext e8
  have hz8 := hz.ext e8
  have ho8 := owns_ext' ho e8
  have hw8 := hw.trans e8
  have hsz8 : bB ≤ w8.heap.size := Nat.le_trans hsz e8.size
  have s8 := e8.size
  have hoA8 := owns_ext' hoA e8
  have gB6 : bB ≤ g5 := (ho8.lt _ rfl).1
  clear hx8 e8 hb ho hw hz hoA
  refine wpList_append_lies w8 rfl _ _ 93 rfl bB 41 i0 (.float .f64 0) 1 8 Tryz.underlying93 hi hz0 hz1 hz2 rfl (by decide) _ 2 [.float .f64 y4a, .float .f64 y5a] rfl ho8 ⟨nbv6, 0, none⟩ 2 2 [.float .f64 y6a, .float .f64 y6b] rfl rfl ?_ ?_ (by decide) (by unfold maxLen; omega) (by omega) hsz8 _ rfl ?_
  · intro j u hj
    match j, hj with
    | 0, hj => simp at hj; subst hj; simpa [Addr.add] using q8.cell 0
    | 1, hj => simp at hj; subst hj; simpa [Addr.add] using q8.cell 1
  · intro u hu; simp at hu; rcases hu with rfl | rfl <;> rfl
  intro g6 cap6 w9 hn hg _ _
  replace hg : w8.grownBy w9 (Value.ownBlock (.slice (some ⟨g5, 0, none⟩) 2 cap5)) := hg
  obtain ⟨hwN, hbN, hoN, hsN, hb9, hkN, hk9⟩ := after_append (i := 2) hw8 hb8 ho8 (by omega) (by omega) hsz8 hn hg
  have hoA9 := hoA8.kept hg (.inr (by simp [Value.ownBlock]; try omega))
  have FA := fl4_of_owns hoA9
  have FB := fl4_of_owns hn
  have hz9 : Blk w9 (w.heap.size + 1) 95 #[.float .f64 0, .slice none 0 0, .slice none 0 0] := (hk9 _ (by omega)).trans hz8
  have cR := hb9.cell
  have fR := hb9.frozen
  have cz := hz9.cell
  have fz := hz9.frozen
  have gN : bB ≤ g6 := (hn.lt _ rfl).1
  have gM : bA ≤ g3 := (hoA9.lt _ rfl).1
  clear q8 hb8 ho8 hw8 hn hg hb9 hoA8 hoA9 hz8 hz9 hkN hk9 hoN hbN
  go_wp2_with fail
  have FR : can r = radS a f := by
    obtain ⟨k1, k2, k3, k4, k5, k6, k7, k8, k9, k10, k11, k12⟩ := G.out
    simp only [k1, k2, k3, k5, k6, k7, k8, k9, k10, k11, k12, fbin, radS, nS, n2S, n4S]
  have N1 : can q2 = nS f := by
    obtain ⟨k1, k2, k3, k4, k5, k6, k7, k8, k9, k10, k11, k12⟩ := G.out
    simp only [k1, k2, fbin, nS]
  have N2 : can q3 = n2S f := by
    obtain ⟨k1, k2, k3, k4, k5, k6, k7, k8, k9, k10, k11, k12⟩ := G.out
    simp only [k1, k2, k3, fbin, nS, n2S]
  have N3 : can q4 = n3S f := by
    obtain ⟨k1, k2, k3, k4, k5, k6, k7, k8, k9, k10, k11, k12⟩ := G.out
    simp only [k1, k2, k3, k4, fbin, nS, n2S, n3S]
  have N4 : can q5 = n4S f := by
    obtain ⟨k1, k2, k3, k4, k5, k6, k7, k8, k9, k10, k11, k12⟩ := G.out
    simp only [k1, k2, k3, k5, fbin, nS, n2S, n4S]
  rw [N1] at ey1a ey2a ey3a ey4a ey5a ey6a
  rw [N2] at ey2a ey5a
  rw [N3] at ey3a ey6a
  rw [N4] at ey3b ey6b
  rw [horn4 _ (zero_add' hg0 (by decide))] at ey1a ey4a
  rw [horn3 _ (zero_add' hg0 (by decide))] at ey2a ey5a
  rw [horn2 _ (zero_add' hg0 (by decide))] at ey3a ey6a
  refine bodyPost_ret (v := .agg #[.float .f64 r, .slice (some ⟨g3, 0, none⟩) 4 cap3, .slice (some ⟨g6, 0, none⟩) 4 cap6]) (by simp [results, Tryz.results45, go_sem, cR, cz]) rfl ⟨r, g3, cap3, g6, cap6, y1a, y2a, y3a, y3b, y4a, y5a, y6a, y6b, rfl, FR, ⟨ey1a, ey2a, ey3a, ey3b⟩, ⟨ey4a, ey5a, ey6a, ey6b⟩, ?_, ?_, ?_⟩
  · exact (((FA.set (by omega)).set (by omega)).set (by omega)).set (by omega)
  · exact (((FB.set (by omega)).set (by omega)).set (by omega)).set (by omega)
  · exact ((hwN.setCell (by show w.heap.size ≤ w.heap.size + 1; omega) _).setCell (by show w.heap.size ≤ w.heap.size + 1; omega) _).setCell (by show w.heap.size ≤ w.heap.size + 1; omega) _
end Go.Proofs.YtcppgbhjbmfldaaGreatDoor
