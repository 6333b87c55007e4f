/- WaveAngles: for any strip along a meridian of a globe near the earth in size and of a flattening of at most 0.004, and any place up to 70 degrees from the equator and six degrees from the middle meridian, the program answers points without error, and a step of a hundredth of a degree to the north and one as long to the east stay as long as each other within two thousandths and square to each other within a thousandth, east to the right of north; the angle that the program answers is the one by which north is turned, and the number that it answers is how much longer the step is, within a thousandth. Conditions: the variables that hold the errors read as the program lays them. -/
import Derived.Test.YtcppgbhjbmfldaaDoorRows
import Derived.Test.YtcppgbhjbmfldaaDoorCards
import Derived.Test.YtcppgbhjbmfldaaDoorTie
import Derived.Test.YtcppgbhjbmfldaaDoorZB
import Derived.Test.YtcppgbhjbmfldaaDoorZB
import Derived.Test.YtcppgbhjbmfldaaDoorZB
import Derived.Test.YtcppgbhjbmfldaaDoorZU
import Derived.Test.YtcppgbhjbmfldaaDoorWV
import Derived.ProofKit
import Derived.LaidMore
import Derived.OpenShut
import Derived.Carry
import Derived.Stop.Joined
import Derived.SevenTiedAt
namespace Go.Proofs.YtcppgbhjbmfldaaDoor.waveAngles
open Go.ChangeShapes Go.WideShapes Go.ChangeAt Go.RowKit Go.Joins Go.Rel
open Go.Proofs.YtcppgbhjbmfldaaDoor

set_option maxRecDepth 100000 in
theorem lifted (os : Os) (started : os.Started) (H : Type) (enc : TypeId × Value → H) :
    ReturnsInHanded {} Tryd.checked os 4 .any (fun w args => (Rows.waveAnglesSpec.pre enc Tryd.prog Tryd.f4 [] false w args ∧ laidMetH Tryd.prog laid2 w) ∧ sizedMet enc Tryd.prog Tryd.f4 (OpenSpec.ofChange Rows.waveAnglesSpec) false w args)
      (Rows.waveAnglesSpec.post enc Tryd.prog Tryd.f4 false true false false) := by
  refine returnsInHanded_of_change_and (C := Tryd.checked) (X := fun w _ => laidMetH Tryd.prog laid2 w) (fun _ _ _ hh h => h.of_heap hh) own started (by kernel_rfl) Tryd.func4
    (ChangeSpec.witness_shaped (enc := enc) (C := Tryd.checked) (os := os) (X := fun w _ => laidMetH Tryd.prog laid2 w) false (World.doorLaid Tryd.prog 400 os) #[.agg #[.float .f64 0, .float .f64 0, .int .i64 0, .float .f64 0], .agg #[.int .i64 0, .int .i64 0]] 8 rfl (World.shaped_of_RefB (by kernel_rfl) (by kernel_rfl)) (by kernel_rfl) (by kernel_rfl) (by kernel_rfl) (door2 os _)) ?_
  intro W base args ds gs before hval0 hW _ _ _ _
  have hval : ∀ (j : Nat) t v, Tryd.f4.params[j]? = some t → args[j]? = some v → Value.okWide Tryd.prog W .any base t v := hval0
  have hW' := hW
  obtain ⟨p, q, hA0, hV, rfl, _, _⟩ := hW
  have hA : DataW.TrodAll enc Tryd.prog W 0 (fun _ => true) true Tryd.f4.params.toList args.toList ds p := hA0
  rw [Tryd.params4] at hA hval
  obtain ⟨v0, v1, d0, d1, p0, p1, rfl, rfl, rfl, h0, h1⟩ := trodAll_two hA
  obtain ⟨rfl, rfl⟩ := trodVars_none hV
  obtain ⟨a, f, mid, sc, rfl, e0⟩ := open_strip (hval 0 46 v0 rfl rfl) h0
  obtain ⟨lon, lat, rfl, e1⟩ := open_place (hval 1 26 v1 rfl rfl) h1
  subst e0; subst e1
  have k0 : ∀ W', Below W.heap.size W W' → DataW.Trod enc Tryd.prog W' 0 (fun b => decide (b < W.heap.size)) true 46 _ _ [] := fun W' hb => Below.trod laidOut (by kernel_rfl) (of_decide_eq_true (by kernel_rfl)) h0 hb (by simp)
  have k1 : ∀ W', Below W.heap.size W W' → DataW.Trod enc Tryd.prog W' 0 (fun b => decide (b < W.heap.size)) true 26 _ _ [] := fun W' hb => Below.trod laidOut (by kernel_rfl) (of_decide_eq_true (by kernel_rfl)) h1 hb (by simp)
  clear hA0 hval0
  simp only [List.append_nil] at hW'
  refine (waveAngles_walk a f mid sc lon lat W).mono fun e W' ⟨he, hg⟩ => ?_
  subst he
  exact ⟨_, rfl, _, _, _, [], [], [], hW', trodAll_mk1 (shut_bool Tryd.underlying4 true), trodAll_mk2 (k0 W' hg) (k1 W' hg), rfl, Below.frame hg _, fun h => by cases h⟩

theorem over : Rows.WaveAnglesSaid :=
  OpenClaim.holds_of_wide 4 Tryd.f4 rfl rfl rfl rfl rfl rfl rfl ⟨rfl, rfl, rfl, rfl, rfl⟩ rfl rfl rfl rfl rfl (by kernel_rfl) Tryd.func4 (by kernel_rfl)
    (of_decide_eq_true (by kernel_rfl)) (by unfold Func.isWrapper; rw [if_neg (of_decide_eq_false (by kernel_rfl))]; exact ⟨rfl, rfl⟩)
    (fun os started H enc _ => lifted os started H enc)

/-- THE STATEMENT. -/
theorem proved : Rows.WaveAnglesCardSaid :=
  Claim7.holds_tied_plain_at .later [] Rows.waveAnglesCard.laidKinds true Rows.waveAnglesCard.stood.harness false
    over (fun _ h => by cases h) (by kernel_rfl) (fun _ h => by cases h) waveAngles_row_tie rfl ⟨rfl, rfl⟩ (by kernel_rfl) rfl
    (fun f fn hf hfn => by
      obtain rfl : f = 4 := Option.some.inj ((show Tryd.prog.funcNamed "mercator/mercatorlaw2.WaveAngles" = some 4 by kernel_rfl).symm.trans hf) |>.symm
      obtain rfl : fn = Tryd.f4 := (Option.some.inj (Tryd.func4.symm.trans hfn)).symm
      exact ⟨by kernel_rfl, fun j t ht => by
        rw [Tryd.params4] at ht
        have hm : t ∈ [46, 26] := by simpa using Array.mem_of_getElem? ht
        have hall : ([46, 26].all fun u => !Tryd.prog.wantsStandIn u) = true := by kernel_rfl
        exact (show Tryd.prog.wantsStandIn t = false by simpa using List.all_eq_true.1 hall t hm)⟩)
    (by kernel_rfl)
end Go.Proofs.YtcppgbhjbmfldaaDoor.waveAngles
namespace Go.Proofs.YtcppgbhjbmfldaaDoor
theorem waveAngles_holds : Rows.WaveAnglesCardSaid := waveAngles.proved
#print axioms waveAngles_holds
end Go.Proofs.YtcppgbhjbmfldaaDoor
