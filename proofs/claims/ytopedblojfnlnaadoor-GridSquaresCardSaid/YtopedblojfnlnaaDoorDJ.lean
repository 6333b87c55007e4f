/- The walk of the statement GridSquares. -/
import Derived.Test.YtopedblojfnlnaaDoorDI
import Derived.Test.YtopedblojfnlnaaDoorZD
namespace Go.Proofs.YtopedblojfnlnaaDoor
open Go.RowKit Go.Fp Go.Rel Go.Lib
set_option maxRecDepth 20000

theorem zoned_c (w : World) : Calls Tryd.prog 6 #[] w (ExR (.bool true) w) := by
  have hS : signP 3000000000 = 3000000000 := by decide
  go_enter Tryd.func6, Tryd.ntmps6
  go_wp2_with (first
    | (go_at_call 43; refine (signed_c _ _).mono ?_; rintro e w1 ⟨rfl, hx⟩)
    | go_in)
  go_ret
  exact ⟨rfl, hx⟩
theorem ref_c (z : Int) (s : Bool) (e n : Int) (w : World) : Calls Tryd.prog 7 #[refV z s e n] w (ExR (refV z s e n) w) := by
  go_enter Tryd.func7, Tryd.ntmps7
  go_wp2_with fail
  exact bodyPost_ret (v := refV z s e n) (by simp [results, Tryd.results7, go_sem]) rfl ⟨rfl, ((Ext.refl w).alloc _).alloc _⟩
set_option maxHeartbeats 8000000 in
theorem gridSquares_walk {A : Nat → Addr} (z : Int) (s : Bool) (e n : Int) (T : ByteArray) (hT : T.size ≤ 9223372036854775807) (w : World) (hW : WorldG A w) :
    Calls Tryd.prog 3 #[refV z s e n, .string T] w (ExR (.bool true) w) := by
  rcases Nat.lt_or_ge 100 T.size with hbig | hsm
  · go_enter Tryd.func3, Tryd.ntmps3
    go_wp2_with (first
      | (go_at_call 6; go_must (refine (zoned_c _).mono ?_; rintro e w1 ⟨rfl, hx⟩; obtain ⟨hb1, hw⟩ := ext1 hx; clear hx)))
    go_ret
    exact ⟨rfl, hw⟩
  · have h2 : (T.size < 2 ∨ T.size % 2 = 1) ∨ ∃ k, T.size = 2 * k + 2 ∧ k ≤ 49 := by
      by_cases h : T.size < 2 ∨ T.size % 2 = 1
      · exact .inl h
      · exact .inr ⟨(T.size - 2) / 2, by omega, by omega⟩
    rcases h2 with h2 | ⟨k, hk, hk49⟩
    · have HIN : Hid (∀ w, WorldG A w → Calls Tryd.prog 8 #[refV z s e n, .string T] w (ExR (.bool false) w)) := Lib.hid (fun w _ => in_none z s e n T hsm h2 w)
      obtain ⟨d, hd⟩ : ∃ d : Int, d = (T.size : Int) - 2 := ⟨_, rfl⟩
      have WD : IntKind.i64.wrap ((T.size : Int) - 2) = d := by rw [hd]; exact IntWalk.i64_in _ ⟨by omega, by omega⟩
      have q : d < 0 ∨ 0 ≤ d ∧ d % 2 = 1 := by omega
      have hs : (T.size : Int) ≤ 100 := by omega
      clear h2 hd hT hsm
      rcases q with q | ⟨q, m1⟩
      · go_enter Tryd.func3, Tryd.ntmps3
        go_wp2_with (first
        | (go_at_call 6; go_must (refine (zoned_c _).mono ?_; rintro e w1 ⟨rfl, hx⟩; obtain ⟨hb1, hw⟩ := ext1 hx; clear hx; have c1 := hb1.cell))
        | (go_at_call 7; go_must (refine (ref_c _ _ _ _ _).mono ?_; rintro e w2 ⟨rfl, hx⟩; replace hw := hw.trans hx; replace hb1 := hb1.ext hx; clear hx c1; have c1 := hb1.cell))
        | (go_at_call 8; go_must (refine (HIN.out _ (hW.ext hw)).mono ?_; rintro e w2 ⟨rfl, hx⟩; replace hw := hw.trans hx; replace hb1 := hb1.ext hx; clear hx c1; have c1 := hb1.cell))
        | (go_at_call 9; go_must (refine (HSQ.out _).mono ?_; rintro e w2 ⟨rfl, hx⟩; replace hw := hw.trans hx; replace hb1 := hb1.ext hx; clear hx c1; have c1 := hb1.cell)))
        go_ret
        exact ⟨rfl, hw⟩
      · have m2 : d.tmod 2 = 1 := by rw [Int.tmod_eq_emod_of_nonneg q]; exact m1
        go_enter Tryd.func3, Tryd.ntmps3
        go_wp2_with (first
        | (go_at_call 6; go_must (refine (zoned_c _).mono ?_; rintro e w1 ⟨rfl, hx⟩; obtain ⟨hb1, hw⟩ := ext1 hx; clear hx; have c1 := hb1.cell))
        | (go_at_call 7; go_must (refine (ref_c _ _ _ _ _).mono ?_; rintro e w2 ⟨rfl, hx⟩; replace hw := hw.trans hx; replace hb1 := hb1.ext hx; clear hx c1; have c1 := hb1.cell))
        | (go_at_call 8; go_must (refine (HIN.out _ (hW.ext hw)).mono ?_; rintro e w2 ⟨rfl, hx⟩; replace hw := hw.trans hx; replace hb1 := hb1.ext hx; clear hx c1; have c1 := hb1.cell))
        | (go_at_call 9; go_must (refine (HSQ.out _).mono ?_; rintro e w2 ⟨rfl, hx⟩; replace hw := hw.trans hx; replace hb1 := hb1.ext hx; clear hx c1; have c1 := hb1.cell)))
        go_ret
        exact ⟨rfl, hw⟩
    · have H : ∃ (b : Bool) (S : ByteArray) (m : Int), (b = (decide (m = 0) && (S.toList == T.toList))) ∧ (∀ w, WorldG A w → Calls Tryd.prog 8 #[refV z s e n, .string T] w (ExR (.bool b) w)) ∧
          (∀ w, Calls Tryd.prog 9 #[refV z s e n, .int .i64 (k : Int)] w (ExR (.tuple #[.string S, .int .i64 m]) w)) := by
        by_cases ho : OkRef z e n
        · rcases Nat.lt_or_ge 5 k with h5 | h5
          · exact ⟨false, _, 3, rfl, fun w hW => in_no z s e n T k hk hk49 (.inr ⟨ho, h5⟩) w hW, fun w => squareText_many z s e n k ho (by omega) w⟩
          · obtain ⟨h1, h2, h3, h4, h6, h7⟩ := ho
            obtain ⟨e', rfl⟩ : ∃ k : Nat, e = k := ⟨e.toNat, by omega⟩
            obtain ⟨n', rfl⟩ : ∃ k : Nat, n = k := ⟨n.toNat, by omega⟩
            exact ⟨_, _, 0, (by simp), fun w hW => in_ok z s e' n' T k hk h1 h2 (by omega) (by omega) h5 _ rfl w hW, fun w => squareText_ok z s e' n' k h1 h2 (by omega) (by omega) h5 w⟩
        · exact ⟨false, _, 4, rfl, fun w hW => in_no z s e n T k hk hk49 (.inl ho) w hW, fun w => squareText_bad z s e n k ho w⟩
      obtain ⟨b, S, m, hb, h1, h2⟩ := H
      have HIN := Lib.hid h1
      have HSQ := Lib.hid h2
      have HB := Lib.hid hb
      have q1 : (T.size : Int) - 2 = 2 * (k : Int) := by omega
      have q2 : (2 * (k : Int)).tmod 2 = 0 := Int.mul_tmod_right _ _
      have q3 : (2 * (k : Int)).tdiv 2 = (k : Int) := Int.mul_tdiv_cancel_left _ (by decide)
      have hs : (T.size : Int) ≤ 100 := by omega
      clear h1 h2 hb hT hsm
      go_enter Tryd.func3, Tryd.ntmps3
      go_wp2_with (first
      | (go_at_call 6; go_must (refine (zoned_c _).mono ?_; rintro e w1 ⟨rfl, hx⟩; obtain ⟨hb1, hw⟩ := ext1 hx; clear hx; have c1 := hb1.cell))
      | (go_at_call 7; go_must (refine (ref_c _ _ _ _ _).mono ?_; rintro e w2 ⟨rfl, hx⟩; replace hw := hw.trans hx; replace hb1 := hb1.ext hx; clear hx c1; have c1 := hb1.cell))
      | (go_at_call 8; go_must (refine (HIN.out _ (hW.ext hw)).mono ?_; rintro e w2 ⟨rfl, hx⟩; replace hw := hw.trans hx; replace hb1 := hb1.ext hx; clear hx c1; have c1 := hb1.cell))
      | (go_at_call 9; go_must (refine (HSQ.out _).mono ?_; rintro e w2 ⟨rfl, hx⟩; replace hw := hw.trans hx; replace hb1 := hb1.ext hx; clear hx c1; have c1 := hb1.cell)))
      all_goals
        rename_i hm0
        have hb := HB.out
        clear HB
        go_ret
        refine ⟨?_, hw⟩
        simp [hm0] at hb
        simp [hb]
end Go.Proofs.YtopedblojfnlnaaDoor
