/- FlatFrom: for any paper and any point of it the program answers the place that the document tells, or the error that it names; of any latitude it tells the isometric latitude, bit by bit, and of any such number the latitude. Conditions: the variables that hold the errors read as the program lays them. -/
import Derived.Test.YtopedblojfnlnaaGreatDoorRows
import Derived.Test.YtopedblojfnlnaaGreatDoorCards
import Derived.Test.YtopedblojfnlnaaGreatDoorTie
import Derived.Test.YtopedblojfnlnaaGreatDoorZB
import Derived.Test.YtopedblojfnlnaaGreatDoorZB
import Derived.Test.YtopedblojfnlnaaGreatDoorK6
import Derived.Test.YtopedblojfnlnaaGreatDoorO3
import Derived.ProofKit
import Derived.LaidMore
import Derived.OpenShut
import Derived.Carry
import Derived.Stop.Joined
import Derived.SevenTiedAt
namespace Go.Proofs.YtopedblojfnlnaaGreatDoor.flatFrom
open Go.ChangeShapes Go.WideShapes Go.ChangeAt Go.RowKit Go.Joins Go.Rel
open Go.Proofs.YtopedblojfnlnaaGreatDoor

set_option maxRecDepth 100000 in
theorem lifted (os : Os) (started : os.Started) (H : Type) (enc : TypeId × Value → H) :
    ReturnsInHanded {} Tryz.checked os 5 .any (fun w args => (Rows.flatFromSpec.pre enc Tryz.prog Tryz.f5 [] false w args ∧ laidMetH Tryz.prog laid9 w) ∧ sizedMet enc Tryz.prog Tryz.f5 (OpenSpec.ofChange Rows.flatFromSpec) false w args)
      (Rows.flatFromSpec.post enc Tryz.prog Tryz.f5 false true false false) := by
  refine returnsInHanded_of_change_and (C := Tryz.checked) (X := fun w _ => laidMetH Tryz.prog laid9 w) (fun _ _ _ hh h => h.of_heap hh) own started (by kernel_rfl) Tryz.func5
    (ChangeSpec.witness_shaped (enc := enc) (C := Tryz.checked) (os := os) (X := fun w _ => laidMetH Tryz.prog laid9 w) false (World.doorLaid Tryz.prog 400 os) #[.agg #[.float .f64 0, .float .f64 0, .string { data := #[] }, .int .i64 0, .float .f64 0], .agg #[.float .f64 0, .float .f64 0], .int .i64 0] 8 rfl (World.shaped_of_RefB (by kernel_rfl) (by kernel_rfl)) (by kernel_rfl) (by kernel_rfl) (by kernel_rfl) (door9 os _)) ?_
  intro W base args ds gs before hval0 hW _ _ hL _
  have hval : ∀ (j : Nat) t v, Tryz.f5.params[j]? = some t → args[j]? = some v → Value.okWide Tryz.prog W .any base t v := hval0
  have hW' := hW
  obtain ⟨p, q, hA0, hV, rfl, _, _⟩ := hW
  have hA : DataW.TrodAll enc Tryz.prog W 0 (fun _ => true) true Tryz.f5.params.toList args.toList ds p := hA0
  rw [Tryz.params5] at hA hval
  obtain ⟨v0, v1, v2, d0, d1, d2, p0, p1, p2, rfl, rfl, rfl, h0, h1, h2⟩ := trodAll_three hA
  obtain ⟨rfl, rfl⟩ := trodVars_none hV
  obtain ⟨a, f, s, mid, sc, rfl, e0⟩ := open_paper (hval 0 61 v0 rfl rfl) h0
  obtain ⟨x, y, rfl, e1⟩ := open_flat (hval 1 28 v1 rfl rfl) h1
  obtain ⟨lat, rfl, rfl, e2, w2⟩ := open_int Tryz.underlying3 (hval 2 3 v2 rfl rfl) h2
  subst e0; subst e1; subst e2
  have k0 : ∀ W', Below W.heap.size W W' → DataW.Trod enc Tryz.prog W' 0 (fun b => decide (b < W.heap.size)) true 61 _ _ [] := fun W' hb => Below.trod laidOut (by kernel_rfl) (of_decide_eq_true (by kernel_rfl)) h0 hb (by simp)
  have k1 : ∀ W', Below W.heap.size W W' → DataW.Trod enc Tryz.prog W' 0 (fun b => decide (b < W.heap.size)) true 28 _ _ [] := fun W' hb => Below.trod laidOut (by kernel_rfl) (of_decide_eq_true (by kernel_rfl)) h1 hb (by simp)
  have k2 : ∀ W', Below W.heap.size W W' → DataW.Trod enc Tryz.prog W' 0 (fun b => decide (b < W.heap.size)) true 3 _ _ [] := fun W' hb => Below.trod laidOut (by kernel_rfl) (of_decide_eq_true (by kernel_rfl)) h2 hb (by simp)
  clear hA0 hval0
  simp only [List.append_nil] at hW'
  refine (flatFrom_walk a f s mid sc x y lat W (world8_of_laid hL)).mono fun e W' ⟨he, hg⟩ => ?_
  subst he
  exact ⟨_, rfl, _, _, _, [], [], [], hW', trodAll_mk1 (shut_bool Tryz.underlying4 true), trodAll_mk3 (k0 W' hg) (k1 W' hg) (k2 W' hg), rfl, Below.frame hg _, fun h => by cases h⟩

theorem over : Rows.FlatFromSaid :=
  OpenClaim.holds_of_wide 5 Tryz.f5 rfl rfl rfl rfl rfl rfl rfl ⟨rfl, rfl, rfl, rfl, rfl⟩ rfl rfl rfl rfl rfl (by kernel_rfl) Tryz.func5 (by kernel_rfl)
    (of_decide_eq_true (by kernel_rfl)) (by unfold Func.isWrapper; rw [if_neg (of_decide_eq_false (by kernel_rfl))]; exact ⟨rfl, rfl⟩)
    (fun os started H enc _ => lifted os started H enc)

/-- THE STATEMENT. -/
theorem proved : Rows.FlatFromCardSaid :=
  Claim7.holds_tied_plain_at .later [] Rows.flatFromCard.laidKinds true Rows.flatFromCard.stood.harness true
    over (fun _ h => by cases h) (by kernel_rfl) (fun _ h => by cases h) flatFrom_row_tie rfl ⟨rfl, rfl⟩ (by kernel_rfl) rfl
    (fun f fn hf hfn => by
      obtain rfl : f = 5 := Option.some.inj ((show Tryz.prog.funcNamed "mercator/mercatorlaw2.FlatFrom" = some 5 by kernel_rfl).symm.trans hf) |>.symm
      obtain rfl : fn = Tryz.f5 := (Option.some.inj (Tryz.func5.symm.trans hfn)).symm
      exact ⟨by kernel_rfl, fun j t ht => by
        rw [Tryz.params5] at ht
        have hm : t ∈ [61, 28, 3] := by simpa using Array.mem_of_getElem? ht
        have hall : ([61, 28, 3].all fun u => !Tryz.prog.wantsStandIn u) = true := by kernel_rfl
        exact (show Tryz.prog.wantsStandIn t = false by simpa using List.all_eq_true.1 hall t hm)⟩)
    (by kernel_rfl)
end Go.Proofs.YtopedblojfnlnaaGreatDoor.flatFrom
namespace Go.Proofs.YtopedblojfnlnaaGreatDoor
theorem flatFrom_holds : Rows.FlatFromCardSaid := flatFrom.proved
#print axioms flatFrom_holds
end Go.Proofs.YtopedblojfnlnaaGreatDoor
