/- FlatGood: for any paper of the three kinds, of a globe near the earth in size and flattening, at a scale from a half to two, and any place up to 85 degrees from the equator (on the polar paper from one degree north on) and up to 170 degrees from the middle meridian, the program answers a point without error, and of that point, without error, a place that is within 50 nanodegrees of the first one (on the polar paper so much on its parallel); how much longer things are along and across agrees to a millionth of a millionth where the paper keeps angles, and their product is one so where it keeps areas; and a place farther north by a millionth of a degree to one degree lies farther up on the two papers that have a north. Conditions: the variables that hold the errors read as the program lays them. -/
import Derived.Test.YtddjppaccpioiaaDoorRows
import Derived.Test.YtddjppaccpioiaaDoorCards
import Derived.Test.YtddjppaccpioiaaDoorTie
import Derived.Test.YtddjppaccpioiaaDoorZB
import Derived.Test.YtddjppaccpioiaaDoorZB
import Derived.Test.YtddjppaccpioiaaDoorZB
import Derived.Test.YtddjppaccpioiaaDoorK6
import Derived.Test.YtddjppaccpioiaaDoorIB
import Derived.ProofKit
import Derived.LaidMore
import Derived.OpenShut
import Derived.Carry
import Derived.Stop.Joined
import Derived.SevenTiedAt
namespace Go.Proofs.YtddjppaccpioiaaDoor.flatGood
open Go.ChangeShapes Go.WideShapes Go.ChangeAt Go.RowKit Go.Joins Go.Rel
open Go.Proofs.YtddjppaccpioiaaDoor

set_option maxRecDepth 100000 in
theorem lifted (os : Os) (started : os.Started) (H : Type) (enc : TypeId × Value → H) :
    ReturnsInHanded {} Tryd.checked os 6 .any (fun w args => (Rows.flatGoodSpec.pre enc Tryd.prog Tryd.f6 [] false w args ∧ laidMetH Tryd.prog laid3 w) ∧ sizedMet enc Tryd.prog Tryd.f6 (OpenSpec.ofChange Rows.flatGoodSpec) false w args)
      (Rows.flatGoodSpec.post enc Tryd.prog Tryd.f6 false true false false) := by
  refine returnsInHanded_of_change_and (C := Tryd.checked) (X := fun w _ => laidMetH Tryd.prog laid3 w) (fun _ _ _ hh h => h.of_heap hh) own started (by kernel_rfl) Tryd.func6
    (ChangeSpec.witness_shaped (enc := enc) (C := Tryd.checked) (os := os) (X := fun w _ => laidMetH Tryd.prog laid3 w) false (World.doorLaid Tryd.prog 400 os) #[.agg #[.float .f64 0, .float .f64 0, .string { data := #[] }, .int .i64 0, .float .f64 0], .agg #[.int .i64 0, .int .i64 0], .int .i64 0] 8 rfl (World.shaped_of_RefB (by kernel_rfl) (by kernel_rfl)) (by kernel_rfl) (by kernel_rfl) (by kernel_rfl) (door3 os _)) ?_
  intro W base args ds gs before hval0 hW _ _ _ _
  have hval : ∀ (j : Nat) t v, Tryd.f6.params[j]? = some t → args[j]? = some v → Value.okWide Tryd.prog W .any base t v := hval0
  have hW' := hW
  obtain ⟨p, q, hA0, hV, rfl, _, _⟩ := hW
  have hA : DataW.TrodAll enc Tryd.prog W 0 (fun _ => true) true Tryd.f6.params.toList args.toList ds p := hA0
  rw [Tryd.params6] at hA hval
  obtain ⟨v0, v1, v2, d0, d1, d2, p0, p1, p2, rfl, rfl, rfl, h0, h1, h2⟩ := trodAll_three hA
  obtain ⟨rfl, rfl⟩ := trodVars_none hV
  obtain ⟨a, f, s, mid, sc, rfl, e0⟩ := open_paper (hval 0 69 v0 rfl rfl) h0
  obtain ⟨lon, lat, rfl, e1⟩ := open_place (hval 1 26 v1 rfl rfl) h1
  obtain ⟨north, rfl, rfl, e2, w2⟩ := open_int Tryd.underlying3 (hval 2 3 v2 rfl rfl) h2
  subst e0; subst e1; subst e2
  have k0 : ∀ W', Below W.heap.size W W' → DataW.Trod enc Tryd.prog W' 0 (fun b => decide (b < W.heap.size)) true 69 _ _ [] := fun W' hb => Below.trod laidOut (by kernel_rfl) (of_decide_eq_true (by kernel_rfl)) h0 hb (by simp)
  have k1 : ∀ W', Below W.heap.size W W' → DataW.Trod enc Tryd.prog W' 0 (fun b => decide (b < W.heap.size)) true 26 _ _ [] := fun W' hb => Below.trod laidOut (by kernel_rfl) (of_decide_eq_true (by kernel_rfl)) h1 hb (by simp)
  have k2 : ∀ W', Below W.heap.size W W' → DataW.Trod enc Tryd.prog W' 0 (fun b => decide (b < W.heap.size)) true 3 _ _ [] := fun W' hb => Below.trod laidOut (by kernel_rfl) (of_decide_eq_true (by kernel_rfl)) h2 hb (by simp)
  clear hA0 hval0
  simp only [List.append_nil] at hW'
  refine (flatGood_walk a f s mid sc lon lat north W).mono fun e W' ⟨he, hg⟩ => ?_
  subst he
  exact ⟨_, rfl, _, _, _, [], [], [], hW', trodAll_mk1 (shut_bool Tryd.underlying4 true), trodAll_mk3 (k0 W' hg) (k1 W' hg) (k2 W' hg), rfl, Below.frame hg _, fun h => by cases h⟩

theorem over : Rows.FlatGoodSaid :=
  OpenClaim.holds_of_wide 6 Tryd.f6 rfl rfl rfl rfl rfl rfl rfl ⟨rfl, rfl, rfl, rfl, rfl⟩ rfl rfl rfl rfl rfl (by kernel_rfl) Tryd.func6 (by kernel_rfl)
    (of_decide_eq_true (by kernel_rfl)) (by unfold Func.isWrapper; rw [if_neg (of_decide_eq_false (by kernel_rfl))]; exact ⟨rfl, rfl⟩)
    (fun os started H enc _ => lifted os started H enc)

/-- THE STATEMENT. -/
theorem proved : Rows.FlatGoodCardSaid :=
  Claim7.holds_tied_plain_at .later [] Rows.flatGoodCard.laidKinds true Rows.flatGoodCard.stood.harness false
    over (fun _ h => by cases h) (by kernel_rfl) (fun _ h => by cases h) flatGood_row_tie rfl ⟨rfl, rfl⟩ (by kernel_rfl) rfl
    (fun f fn hf hfn => by
      obtain rfl : f = 6 := Option.some.inj ((show Tryd.prog.funcNamed "mercator/mercatorlaw2.FlatGood" = some 6 by kernel_rfl).symm.trans hf) |>.symm
      obtain rfl : fn = Tryd.f6 := (Option.some.inj (Tryd.func6.symm.trans hfn)).symm
      exact ⟨by kernel_rfl, fun j t ht => by
        rw [Tryd.params6] at ht
        have hm : t ∈ [69, 26, 3] := by simpa using Array.mem_of_getElem? ht
        have hall : ([69, 26, 3].all fun u => !Tryd.prog.wantsStandIn u) = true := by kernel_rfl
        exact (show Tryd.prog.wantsStandIn t = false by simpa using List.all_eq_true.1 hall t hm)⟩)
    (by kernel_rfl)
end Go.Proofs.YtddjppaccpioiaaDoor.flatGood
namespace Go.Proofs.YtddjppaccpioiaaDoor
theorem flatGood_holds : Rows.FlatGoodCardSaid := flatGood.proved
#print axioms flatGood_holds
end Go.Proofs.YtddjppaccpioiaaDoor
