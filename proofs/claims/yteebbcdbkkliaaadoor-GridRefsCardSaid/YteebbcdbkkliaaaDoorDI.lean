/- Walks: in which squares a reference lies: package grid's In; the law's zoned. -/
import Derived.Test.YteebbcdbkkliaaaDoorDH
namespace Go.Proofs.YteebbcdbkkliaaaDoor
open Go.RowKit Go.Fp Go.Rel Go.Lib
set_option maxRecDepth 20000

set_option maxHeartbeats 4000000 in
theorem in_none (z : Int) (s : Bool) (e n : Int) (T : ByteArray) (hT : T.size ≤ 100) (h : T.size < 2 ∨ T.size % 2 = 1) (w : World) :
    Calls Tryd.prog 26 #[refV z s e n, .string T] w (ExR (.bool false) w) := by
  obtain ⟨d, hd⟩ : ∃ d : Int, d = (T.size : Int) - 2 := ⟨_, rfl⟩
  have WD : IntKind.i64.wrap ((T.size : Int) - 2) = d := by rw [hd]; exact IntWalk.i64_in _ ⟨by omega, by omega⟩
  have q : d < 0 ∨ 0 ≤ d ∧ d % 2 = 1 := by omega
  clear h hT hd
  rcases q with q | ⟨q, m1⟩
  · go_enter Tryd.func26, Tryd.ntmps26
    go_wp2_with fail
    go_ret
    exact ⟨rfl, (Ext.refl w).alloc _⟩
  · have m2 : d.tmod 2 = 1 := by rw [Int.tmod_eq_emod_of_nonneg q]; exact m1
    go_enter Tryd.func26, Tryd.ntmps26
    go_wp2_with fail
    go_ret
    exact ⟨rfl, (Ext.refl w).alloc _⟩
set_option maxHeartbeats 4000000 in
theorem in_no {A : Nat → Addr} (z : Int) (s : Bool) (e n : Int) (T : ByteArray) (k : Nat) (hk : T.size = 2 * k + 2) (hk2 : k ≤ 49) (h : ¬ OkRef z e n ∨ OkRef z e n ∧ 5 < k) (w : World) (hW : WorldG A w) :
    Calls Tryd.prog 26 #[refV z s e n, .string T] w (ExR (.bool false) w) := by
  have HS : Hid (∀ w, WorldG A w → Calls Tryd.prog 24 #[refV z s e n, .int .i64 (k : Int)] w (fun e w' => ∃ p, e = .returned (.tuple #[.string ⟨#[]⟩, errV p]) ∧ Ext w w')) := Lib.hid (fun w hW => by
    rcases h with h | ⟨h, h5⟩
    · exact (square_bad z s e n k h w hW).mono fun _ _ ⟨he, hx⟩ => ⟨_, he, hx⟩
    · exact (square_many z s e n k h (by omega) w hW).mono fun _ _ ⟨he, hx⟩ => ⟨_, he, hx⟩)
  have q1 : (T.size : Int) - 2 = 2 * (k : Int) := by omega
  have q2 : (2 * (k : Int)).tmod 2 = 0 := Int.mul_tmod_right _ _
  have q3 : (2 * (k : Int)).tdiv 2 = (k : Int) := Int.mul_tdiv_cancel_left _ (by decide)
  clear h
  go_enter Tryd.func26, Tryd.ntmps26
  go_wp2_with (first
    | (go_at_call 24; go_must (refine (HS.out _ (hW.ext ((Ext.refl w).alloc _))).mono ?_; rintro e w1 ⟨p, rfl, hx⟩; obtain ⟨hb1, hw⟩ := ext1 hx; clear hx)))
  go_ret
  exact ⟨rfl, hw⟩
set_option maxHeartbeats 4000000 in
theorem in_ok {A : Nat → Addr} (z : Int) (s : Bool) (e n : Nat) (T : ByteArray) (k : Nat) (hk : T.size = 2 * k + 2) (hz : 1 ≤ z) (hz' : z ≤ 60) (he : e ≤ 999999) (hn : n ≤ 9999999) (hm : k ≤ 5) (S : ByteArray) (hS : S = ⟨(sqS e n k).toArray⟩) (w : World) (hW : WorldG A w) :
    Calls Tryd.prog 26 #[refV z s e n, .string T] w (ExR (.bool (S.toList == T.toList)) w) := by
  have HS : Hid (∀ w, WorldG A w → Calls Tryd.prog 24 #[refV z s e n, .int .i64 (k : Int)] w (ExR (.tuple #[.string S, .nilIface]) w)) := Lib.hid (fun w hW => by
    rw [hS]
    exact square_ok z s e n k hz hz' he hn hm w hW)
  have q1 : (T.size : Int) - 2 = 2 * (k : Int) := by omega
  have q2 : (2 * (k : Int)).tmod 2 = 0 := Int.mul_tmod_right _ _
  have q3 : (2 * (k : Int)).tdiv 2 = (k : Int) := Int.mul_tdiv_cancel_left _ (by decide)
  clear hS
  go_enter Tryd.func26, Tryd.ntmps26
  go_wp2_with (first
    | (go_at_call 24; go_must (refine (HS.out _ (hW.ext ((Ext.refl w).alloc _))).mono ?_; rintro e w1 ⟨rfl, hx⟩; obtain ⟨hb1, hw⟩ := ext1 hx; clear hx)))
  go_ret
  exact ⟨rfl, hw⟩
end Go.Proofs.YteebbcdbkkliaaaDoor
