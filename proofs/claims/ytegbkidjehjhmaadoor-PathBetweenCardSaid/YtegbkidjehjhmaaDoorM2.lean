/- Walk: the closure of package path's Reach. -/
import Derived.Test.YtegbkidjehjhmaaDoorM1
namespace Go.Proofs.YtegbkidjehjhmaaDoor
open Go.RowKit Go.Fp Go.Rel
set_option maxRecDepth 20000

abbrev tF : TypeId := 31
abbrev ptr (n : Nat) : Value := .pointer (some ⟨n, 0, none⟩)
/-- three blocks of one's own hold these; all else is as it was -/
def LookR (n3 n4 n5 : Nat) (CM SS CS : Nat) (w : World) (e : Ending) (w' : World) : Prop :=
  e = .returned (.tuple #[]) ∧ Blk w' n3 tF #[.float .f64 CM] ∧ Blk w' n4 tF #[.float .f64 SS] ∧ Blk w' n5 tF #[.float .f64 CS] ∧
  (∀ n t c, n ≠ n3 → n ≠ n4 → n ≠ n5 → Blk w n t c → Blk w' n t c) ∧ (∀ b, Ext b w → b.heap.size ≤ n3 → b.heap.size ≤ n4 → b.heap.size ≤ n5 → Ext b w')

/-- all but three blocks is as it was -/
structure Own3 (w0 : World) (n3 n4 n5 : Nat) (w : World) : Prop where
  blk : ∀ n t c, n ≠ n3 → n ≠ n4 → n ≠ n5 → Blk w0 n t c → Blk w n t c
  ext : ∀ b, Ext b w0 → b.heap.size ≤ n3 → b.heap.size ≤ n4 → b.heap.size ≤ n5 → Ext b w
theorem Own3.refl (w : World) (n3 n4 n5 : Nat) : Own3 w n3 n4 n5 w := ⟨fun _ _ _ _ _ _ h => h, fun _ h _ _ _ => h⟩
theorem Own3.step {w0 w w' : World} {n3 n4 n5 : Nat} (h : Own3 w0 n3 n4 n5 w) (hx : Ext w w') : Own3 w0 n3 n4 n5 w' :=
  ⟨fun n t c a b d k => (h.blk n t c a b d k).ext hx, fun b hb x y z => (h.ext b hb x y z).trans hx⟩
theorem Own3.store {w0 w w' : World} {n3 n4 n5 g : Nat} (h : Own3 w0 n3 n4 n5 w) (hg : g = n3 ∨ g = n4 ∨ g = n5) (hx : ∀ b, Ext b w → b.heap.size ≤ g → Ext b w') (hs : ∀ n, n ≠ g → w'.heap[n]? = w.heap[n]?) :
    Own3 w0 n3 n4 n5 w' :=
  ⟨fun n t c a b d k => Blk.same (h.blk n t c a b d k) hs (by rcases hg with rfl | rfl | rfl <;> assumption),
   fun b hb x y z => hx b (h.ext b hb x y z) (by rcases hg with rfl | rfl | rfl <;> assumption)⟩
theorem Own3.drewN {w0 w : World} {n3 n4 n5 : Nat} (h : Own3 w0 n3 n4 n5 w) (k : Nat) : Own3 w0 n3 n4 n5 (w.drewN k) := h.step ((Ext.refl w).drewN k)

set_option maxHeartbeats 4000000 in
theorem look_c (n1 n2 n3 n4 n5 s1 o x3 x4 x5 : Nat) (w : World) (h13 : n1 ≠ n3) (h23 : n2 ≠ n3) (h34 : n3 ≠ n4) (h35 : n3 ≠ n5) (h45 : n4 ≠ n5)
    (b1 : Blk w n1 tF #[.float .f64 s1]) (b2 : Blk w n2 tF #[.float .f64 o]) (b3 : Blk w n3 tF #[.float .f64 x3]) (b4 : Blk w n4 tF #[.float .f64 x4]) (b5 : Blk w n5 tF #[.float .f64 x5]) :
    Calls Tryd.prog 66 #[ptr n1, ptr n2, ptr n3, ptr n4, ptr n5] w
      (LookR n3 n4 n5 (cosP (nearP (fadd (fmul (can c2) (can s1)) (can o)))) (sinP (nearP (can o))) (cosP (nearP (can o))) w) := by
  have hO := Own3.refl w n3 n4 n5
  generalize hC : nearP (fadd (fmul (can c2) (can s1)) (can o)) = M
  have HC := Lib.hid hC
  clear hC
  generalize hK : nearP (can o) = N
  have HK := Lib.hid hK
  clear hK
  have k1 := b1.cell
  have k2 := b2.cell
  have tk : Hid True := trivial
  have tc : Hid True := trivial
  go_enter Tryd.func66, Tryd.ntmps66
  go_wp2_with (first
    | (with_reducible refine upon_fl rfl ?_; intro r n hr)
    | (go_at_call 44; clear tk; go_must (refine (nearest_c _ _).mono ?_; rintro e v1 ⟨rfl, hx⟩; clear k1 k2; replace b2 := b2.ext (bareN hx rfl rfl rfl rfl); replace b3 := b3.ext (bareN hx rfl rfl rfl rfl); replace b4 := b4.ext (bareN hx rfl rfl rfl rfl); replace b5 := b5.ext (bareN hx rfl rfl rfl rfl); replace hO := hO.step (bareN hx rfl rfl rfl rfl); clear hx b1; simp only [*, fbin]; rw [HC.out]))
    | (go_at_call 44; go_must (refine (nearest_c _ _).mono ?_; rintro e v3 ⟨rfl, hx⟩; clear k2; replace c3 := c3.ext (bareN hx rfl rfl rfl rfl); replace b4 := b4.ext (bareN hx rfl rfl rfl rfl); replace b5 := b5.ext (bareN hx rfl rfl rfl rfl); replace hO := hO.step (bareN hx rfl rfl rfl rfl); clear hx; rw [HK.out]))
    | (go_at_call 46; clear tc; go_must (refine (cos_c _ _).mono ?_; rintro e v2 ⟨rfl, hx⟩; replace b2 := b2.ext (bareN hx rfl rfl rfl rfl); replace b3 := b3.ext (bareN hx rfl rfl rfl rfl); replace b4 := b4.ext (bareN hx rfl rfl rfl rfl); replace b5 := b5.ext (bareN hx rfl rfl rfl rfl); replace hO := hO.step (bareN hx rfl rfl rfl rfl); clear hx))
    | (go_at_call 46; go_must (refine (cos_c _ _).mono ?_; rintro e v2 ⟨rfl, hx⟩; replace c3 := c3.ext (bareN hx rfl rfl rfl rfl); replace b4 := b4.ext (bareN hx rfl rfl rfl rfl); replace b5 := b5.ext (bareN hx rfl rfl rfl rfl); replace hO := hO.step (bareN hx rfl rfl rfl rfl); clear hx))
    | (go_at_call 45; go_must (refine (sin_c _ _).mono ?_; rintro e v2 ⟨rfl, hx⟩; replace c3 := c3.ext (bareN hx rfl rfl rfl rfl); replace b4 := b4.ext (bareN hx rfl rfl rfl rfl); replace b5 := b5.ext (bareN hx rfl rfl rfl rfl); replace hO := hO.step (bareN hx rfl rfl rfl rfl); clear hx))
    | (refine wpList_ownF rfl 31 _ _ rfl _ _ _ rfl rfl _ _ b3 (by kernel_rfl) ?_; go_must (intro u1 c3 e3 s3 z3; replace b2 := b2.same s3 h23; replace b4 := b4.same s3 h34.symm; replace b5 := b5.same s3 h35.symm; replace hO := hO.store (.inl rfl) e3 s3; have k2 := b2.cell; clear b3 e3 s3 z3))
    | (refine wpList_ownF rfl 31 _ _ rfl _ _ _ rfl rfl _ _ b4 (by kernel_rfl) ?_; go_must (intro u1 c4 e4 s4 z4; replace c3 := c3.same s4 h34; replace b5 := b5.same s4 h45.symm; replace hO := hO.store (.inr (.inl rfl)) e4 s4; clear b4 e4 s4 z4))
    | (refine wpList_ownF rfl 31 _ _ rfl _ _ _ rfl rfl _ _ b5 (by kernel_rfl) ?_; go_must (intro u1 c5 e5 s5 z5; replace c3 := c3.same s5 h35; replace c4 := c4.same s5 h45; replace hO := hO.store (.inr (.inr rfl)) e5 s5; clear b5 e5 s5 z5)))
  (try simp only [Exit.inBlock, Exit.then])
  refine bodyPost_ret (results_none rfl _ _ _) rfl ?_
  exact ⟨rfl, c3, c4, c5, hO.blk, hO.ext⟩
end Go.Proofs.YtegbkidjehjhmaaDoor
