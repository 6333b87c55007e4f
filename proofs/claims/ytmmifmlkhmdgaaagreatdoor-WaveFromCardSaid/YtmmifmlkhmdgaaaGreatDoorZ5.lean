/- Walks: the greatest latitude at which a function is at most a number: the reference's. -/
import Derived.Test.YtmmifmlkhmdgaaaGreatDoorZ3
namespace Go.Proofs.YtmmifmlkhmdgaaaGreatDoor
open Go.RowKit Go.Fp Go.Rel
set_option maxRecDepth 20000

set_option maxHeartbeats 8000000 in
theorem latAt_up (a f : Nat) (s : ByteArray) (mid : Int) (sc x : Nat) (r : Int) (w : World) (hI : LatOk (upP a f sc) (can x) r) : Calls Tryz.prog 71 #[paperV a f s mid sc, .bool true, .float .f64 x] w (ExR (.int .i64 r) w) := by
  have HC : Hid (∀ m w', Ext w w' → Calls Tryz.prog 89 #[paperV a f s mid sc, .int .i64 m] w' (FlR (upP a f sc m) w')) := Lib.hid (fun m w' _ => upOf_c a f s mid sc m w')
  have HI := Lib.hid hI
  have HN := Blk.new w #[.float .f64 a, .float .f64 f, .string s, .int .i64 mid, .float .f64 sc] 108
  have hw0 : Ext w (w.alloc (.cells #[.float .f64 a, .float .f64 f, .string s, .int .i64 mid, .float .f64 sc] 108)) := (Ext.refl w).alloc _
  generalize hg : upP a f sc = g at *
  clear hI hg
  go_enter Tryz.func71, Tryz.ntmps71
  go_wp2_with fail
  go_loopw [7, 8] (fun lv hv wr => ∃ lo hi : Int, lv = .int .i64 lo ∧ hv = .int .i64 hi ∧ LatIs g (can x) lo hi r ∧ -89000000000 ≤ lo ∧ hi ≤ 89000000001 ∧ lo < hi ∧ Ext w wr ∧ Blk wr w.heap.size 108 #[.float .f64 a, .float .f64 f, .string s, .int .i64 mid, .float .f64 sc]) (fun lv hv _ => (intOf hv - intOf lv).toNat)
  case atStart => exact ⟨_, _, rfl, rfl, HI.out, by omega, by omega, by omega, hw0, HN⟩
  case round =>
    clear HI HN hw0
    obtain ⟨lo, hi, rfl, rfl, hI, b1, b2, b3, hw, hb⟩ := hrel
    cases hI with
    | done h =>
      go_wp2_with fail
      go_ret
      exact ⟨rfl, hw⟩
    | low h hl hr =>
      rcases (show (lo + hi) % 2 = 0 ∨ (lo + hi) % 2 = 1 by omega) with hpar | hpar
      · obtain ⟨k, hk⟩ : ∃ k, lo + hi = 2 * k := ⟨(lo + hi) / 2, by omega⟩
        have P1 : (lo + hi).tmod 2 = 0 := Int.tmod_eq_zero_of_dvd ⟨k, hk⟩
        have Q1 : (hi - lo).tdiv 2 = k - lo := by rw [show hi - lo = 2 * (k - lo) by omega]; exact Int.mul_tdiv_cancel_left _ (by decide)
        have E1 : (lo + hi) / 2 = k := by omega
        have R1 : lo + (k - lo) = k := by omega
        have B1 : lo < k := by omega
        have B2 : k < hi := by omega
        rw [E1] at hl hr
        have HL := Lib.hid hl
        have HR := Lib.hid hr
        have HB := Lib.hid (And.intro b1 (And.intro b2 (And.intro B1 B2)))
        clear hl hr E1 hk
        have c1 := hb.cell
        go_wp2_with fail
        refine (HC.out _ _ hw).mono ?_
        rintro e w2 ⟨y, rfl, hy, hx⟩
        have hb2 := hb.ext hx
        have hw2 := hw.trans hx
        clear hw hx c1 hb
        rcases leW_yes hy HL.out with o1 | o1
        all_goals
          go_wp2_with fail
          go_roundw
          case rel =>
            obtain ⟨b1, b2, B1, B2⟩ := HB.out
            exact ⟨_, _, rfl, rfl, HR.out, by omega, by omega, by omega, hw2, hb2⟩
          case measure =>
            obtain ⟨b1, b2, B1, B2⟩ := HB.out
            simp [intOf]; omega
      · obtain ⟨k, hk⟩ : ∃ k, lo + hi = 2 * k + 1 := ⟨(lo + hi) / 2, by omega⟩
        have P1 : ¬ (lo + hi).tmod 2 = 0 := fun h => by obtain ⟨j, hj⟩ := Int.dvd_of_tmod_eq_zero h; omega
        have Q1 : (hi - lo).tdiv 2 = (hi - lo) / 2 := Int.tdiv_eq_ediv_of_nonneg (by omega)
        have R1 : (lo + hi - 1).tdiv 2 = k := by rw [show lo + hi - 1 = 2 * k by omega]; exact Int.mul_tdiv_cancel_left _ (by decide)
        have E1 : (lo + hi) / 2 = k := by omega
        have B1 : lo < k := by omega
        have B2 : k < hi := by omega
        rw [E1] at hl hr
        have HL := Lib.hid hl
        have HR := Lib.hid hr
        have HB := Lib.hid (And.intro b1 (And.intro b2 (And.intro B1 B2)))
        clear hl hr E1 hk
        have c1 := hb.cell
        go_wp2_with fail
        refine (HC.out _ _ hw).mono ?_
        rintro e w2 ⟨y, rfl, hy, hx⟩
        have hb2 := hb.ext hx
        have hw2 := hw.trans hx
        clear hw hx c1 hb
        rcases leW_yes hy HL.out with o1 | o1
        all_goals
          go_wp2_with fail
          go_roundw
          case rel =>
            obtain ⟨b1, b2, B1, B2⟩ := HB.out
            exact ⟨_, _, rfl, rfl, HR.out, by omega, by omega, by omega, hw2, hb2⟩
          case measure =>
            obtain ⟨b1, b2, B1, B2⟩ := HB.out
            simp [intOf]; omega
    | high h hl hr =>
      rcases (show (lo + hi) % 2 = 0 ∨ (lo + hi) % 2 = 1 by omega) with hpar | hpar
      · obtain ⟨k, hk⟩ : ∃ k, lo + hi = 2 * k := ⟨(lo + hi) / 2, by omega⟩
        have P1 : (lo + hi).tmod 2 = 0 := Int.tmod_eq_zero_of_dvd ⟨k, hk⟩
        have Q1 : (hi - lo).tdiv 2 = k - lo := by rw [show hi - lo = 2 * (k - lo) by omega]; exact Int.mul_tdiv_cancel_left _ (by decide)
        have E1 : (lo + hi) / 2 = k := by omega
        have R1 : lo + (k - lo) = k := by omega
        have B1 : lo < k := by omega
        have B2 : k < hi := by omega
        rw [E1] at hl hr
        have HL := Lib.hid hl
        have HR := Lib.hid hr
        have HB := Lib.hid (And.intro b1 (And.intro b2 (And.intro B1 B2)))
        clear hl hr E1 hk
        have c1 := hb.cell
        go_wp2_with fail
        refine (HC.out _ _ hw).mono ?_
        rintro e w2 ⟨y, rfl, hy, hx⟩
        have hb2 := hb.ext hx
        have hw2 := hw.trans hx
        clear hw hx c1 hb
        obtain ⟨o1, o2⟩ := leW_no hy HL.out
        go_wp2_with fail
        go_roundw
        case rel =>
          obtain ⟨b1, b2, B1, B2⟩ := HB.out
          exact ⟨_, _, rfl, rfl, HR.out, by omega, by omega, by omega, hw2, hb2⟩
        case measure =>
          obtain ⟨b1, b2, B1, B2⟩ := HB.out
          simp [intOf]; omega
      · obtain ⟨k, hk⟩ : ∃ k, lo + hi = 2 * k + 1 := ⟨(lo + hi) / 2, by omega⟩
        have P1 : ¬ (lo + hi).tmod 2 = 0 := fun h => by obtain ⟨j, hj⟩ := Int.dvd_of_tmod_eq_zero h; omega
        have Q1 : (hi - lo).tdiv 2 = (hi - lo) / 2 := Int.tdiv_eq_ediv_of_nonneg (by omega)
        have R1 : (lo + hi - 1).tdiv 2 = k := by rw [show lo + hi - 1 = 2 * k by omega]; exact Int.mul_tdiv_cancel_left _ (by decide)
        have E1 : (lo + hi) / 2 = k := by omega
        have B1 : lo < k := by omega
        have B2 : k < hi := by omega
        rw [E1] at hl hr
        have HL := Lib.hid hl
        have HR := Lib.hid hr
        have HB := Lib.hid (And.intro b1 (And.intro b2 (And.intro B1 B2)))
        clear hl hr E1 hk
        have c1 := hb.cell
        go_wp2_with fail
        refine (HC.out _ _ hw).mono ?_
        rintro e w2 ⟨y, rfl, hy, hx⟩
        have hb2 := hb.ext hx
        have hw2 := hw.trans hx
        clear hw hx c1 hb
        obtain ⟨o1, o2⟩ := leW_no hy HL.out
        go_wp2_with fail
        go_roundw
        case rel =>
          obtain ⟨b1, b2, B1, B2⟩ := HB.out
          exact ⟨_, _, rfl, rfl, HR.out, by omega, by omega, by omega, hw2, hb2⟩
        case measure =>
          obtain ⟨b1, b2, B1, B2⟩ := HB.out
          simp [intOf]; omega
set_option maxHeartbeats 8000000 in
theorem latAt_iso (a f : Nat) (s : ByteArray) (mid : Int) (sc x : Nat) (r : Int) (w : World) (hI : LatOk (isoP f) (can x) r) : Calls Tryz.prog 71 #[paperV a f s mid sc, .bool false, .float .f64 x] w (ExR (.int .i64 r) w) := by
  have HC : Hid (∀ m w', Ext w w' → Calls Tryz.prog 52 #[globeV a f, .int .i64 m] w' (FlR (isoP f m) w')) := Lib.hid (fun m w' _ => isoOf_c a f m w')
  have HI := Lib.hid hI
  have HN := Blk.new w #[.float .f64 a, .float .f64 f, .string s, .int .i64 mid, .float .f64 sc] 108
  have hw0 : Ext w (w.alloc (.cells #[.float .f64 a, .float .f64 f, .string s, .int .i64 mid, .float .f64 sc] 108)) := (Ext.refl w).alloc _
  generalize hg : isoP f = g at *
  clear hI hg
  go_enter Tryz.func71, Tryz.ntmps71
  go_wp2_with fail
  go_loopw [7, 8] (fun lv hv wr => ∃ lo hi : Int, lv = .int .i64 lo ∧ hv = .int .i64 hi ∧ LatIs g (can x) lo hi r ∧ -89000000000 ≤ lo ∧ hi ≤ 89000000001 ∧ lo < hi ∧ Ext w wr ∧ Blk wr w.heap.size 108 #[.float .f64 a, .float .f64 f, .string s, .int .i64 mid, .float .f64 sc]) (fun lv hv _ => (intOf hv - intOf lv).toNat)
  case atStart => exact ⟨_, _, rfl, rfl, HI.out, by omega, by omega, by omega, hw0, HN⟩
  case round =>
    clear HI HN hw0
    obtain ⟨lo, hi, rfl, rfl, hI, b1, b2, b3, hw, hb⟩ := hrel
    cases hI with
    | done h =>
      go_wp2_with fail
      go_ret
      exact ⟨rfl, hw⟩
    | low h hl hr =>
      rcases (show (lo + hi) % 2 = 0 ∨ (lo + hi) % 2 = 1 by omega) with hpar | hpar
      · obtain ⟨k, hk⟩ : ∃ k, lo + hi = 2 * k := ⟨(lo + hi) / 2, by omega⟩
        have P1 : (lo + hi).tmod 2 = 0 := Int.tmod_eq_zero_of_dvd ⟨k, hk⟩
        have Q1 : (hi - lo).tdiv 2 = k - lo := by rw [show hi - lo = 2 * (k - lo) by omega]; exact Int.mul_tdiv_cancel_left _ (by decide)
        have E1 : (lo + hi) / 2 = k := by omega
        have R1 : lo + (k - lo) = k := by omega
        have B1 : lo < k := by omega
        have B2 : k < hi := by omega
        rw [E1] at hl hr
        have HL := Lib.hid hl
        have HR := Lib.hid hr
        have HB := Lib.hid (And.intro b1 (And.intro b2 (And.intro B1 B2)))
        clear hl hr E1 hk
        have c1 := hb.cell
        go_wp2_with fail
        refine (HC.out _ _ hw).mono ?_
        rintro e w2 ⟨y, rfl, hy, hx⟩
        have hb2 := hb.ext hx
        have hw2 := hw.trans hx
        clear hw hx c1 hb
        rcases leW_yes hy HL.out with o1 | o1
        all_goals
          go_wp2_with fail
          go_roundw
          case rel =>
            obtain ⟨b1, b2, B1, B2⟩ := HB.out
            exact ⟨_, _, rfl, rfl, HR.out, by omega, by omega, by omega, hw2, hb2⟩
          case measure =>
            obtain ⟨b1, b2, B1, B2⟩ := HB.out
            simp [intOf]; omega
      · obtain ⟨k, hk⟩ : ∃ k, lo + hi = 2 * k + 1 := ⟨(lo + hi) / 2, by omega⟩
        have P1 : ¬ (lo + hi).tmod 2 = 0 := fun h => by obtain ⟨j, hj⟩ := Int.dvd_of_tmod_eq_zero h; omega
        have Q1 : (hi - lo).tdiv 2 = (hi - lo) / 2 := Int.tdiv_eq_ediv_of_nonneg (by omega)
        have R1 : (lo + hi - 1).tdiv 2 = k := by rw [show lo + hi - 1 = 2 * k by omega]; exact Int.mul_tdiv_cancel_left _ (by decide)
        have E1 : (lo + hi) / 2 = k := by omega
        have B1 : lo < k := by omega
        have B2 : k < hi := by omega
        rw [E1] at hl hr
        have HL := Lib.hid hl
        have HR := Lib.hid hr
        have HB := Lib.hid (And.intro b1 (And.intro b2 (And.intro B1 B2)))
        clear hl hr E1 hk
        have c1 := hb.cell
        go_wp2_with fail
        refine (HC.out _ _ hw).mono ?_
        rintro e w2 ⟨y, rfl, hy, hx⟩
        have hb2 := hb.ext hx
        have hw2 := hw.trans hx
        clear hw hx c1 hb
        rcases leW_yes hy HL.out with o1 | o1
        all_goals
          go_wp2_with fail
          go_roundw
          case rel =>
            obtain ⟨b1, b2, B1, B2⟩ := HB.out
            exact ⟨_, _, rfl, rfl, HR.out, by omega, by omega, by omega, hw2, hb2⟩
          case measure =>
            obtain ⟨b1, b2, B1, B2⟩ := HB.out
            simp [intOf]; omega
    | high h hl hr =>
      rcases (show (lo + hi) % 2 = 0 ∨ (lo + hi) % 2 = 1 by omega) with hpar | hpar
      · obtain ⟨k, hk⟩ : ∃ k, lo + hi = 2 * k := ⟨(lo + hi) / 2, by omega⟩
        have P1 : (lo + hi).tmod 2 = 0 := Int.tmod_eq_zero_of_dvd ⟨k, hk⟩
        have Q1 : (hi - lo).tdiv 2 = k - lo := by rw [show hi - lo = 2 * (k - lo) by omega]; exact Int.mul_tdiv_cancel_left _ (by decide)
        have E1 : (lo + hi) / 2 = k := by omega
        have R1 : lo + (k - lo) = k := by omega
        have B1 : lo < k := by omega
        have B2 : k < hi := by omega
        rw [E1] at hl hr
        have HL := Lib.hid hl
        have HR := Lib.hid hr
        have HB := Lib.hid (And.intro b1 (And.intro b2 (And.intro B1 B2)))
        clear hl hr E1 hk
        have c1 := hb.cell
        go_wp2_with fail
        refine (HC.out _ _ hw).mono ?_
        rintro e w2 ⟨y, rfl, hy, hx⟩
        have hb2 := hb.ext hx
        have hw2 := hw.trans hx
        clear hw hx c1 hb
        obtain ⟨o1, o2⟩ := leW_no hy HL.out
        go_wp2_with fail
        go_roundw
        case rel =>
          obtain ⟨b1, b2, B1, B2⟩ := HB.out
          exact ⟨_, _, rfl, rfl, HR.out, by omega, by omega, by omega, hw2, hb2⟩
        case measure =>
          obtain ⟨b1, b2, B1, B2⟩ := HB.out
          simp [intOf]; omega
      · obtain ⟨k, hk⟩ : ∃ k, lo + hi = 2 * k + 1 := ⟨(lo + hi) / 2, by omega⟩
        have P1 : ¬ (lo + hi).tmod 2 = 0 := fun h => by obtain ⟨j, hj⟩ := Int.dvd_of_tmod_eq_zero h; omega
        have Q1 : (hi - lo).tdiv 2 = (hi - lo) / 2 := Int.tdiv_eq_ediv_of_nonneg (by omega)
        have R1 : (lo + hi - 1).tdiv 2 = k := by rw [show lo + hi - 1 = 2 * k by omega]; exact Int.mul_tdiv_cancel_left _ (by decide)
        have E1 : (lo + hi) / 2 = k := by omega
        have B1 : lo < k := by omega
        have B2 : k < hi := by omega
        rw [E1] at hl hr
        have HL := Lib.hid hl
        have HR := Lib.hid hr
        have HB := Lib.hid (And.intro b1 (And.intro b2 (And.intro B1 B2)))
        clear hl hr E1 hk
        have c1 := hb.cell
        go_wp2_with fail
        refine (HC.out _ _ hw).mono ?_
        rintro e w2 ⟨y, rfl, hy, hx⟩
        have hb2 := hb.ext hx
        have hw2 := hw.trans hx
        clear hw hx c1 hb
        obtain ⟨o1, o2⟩ := leW_no hy HL.out
        go_wp2_with fail
        go_roundw
        case rel =>
          obtain ⟨b1, b2, B1, B2⟩ := HB.out
          exact ⟨_, _, rfl, rfl, HR.out, by omega, by omega, by omega, hw2, hb2⟩
        case measure =>
          obtain ⟨b1, b2, B1, B2⟩ := HB.out
          simp [intOf]; omega
set_option maxHeartbeats 4000000 in
theorem latOf_c (a f x : Nat) (r : Int) (w : World) (hI : LatOk (isoP f) (can x) r) : Calls Tryz.prog 44 #[globeV a f, .float .f64 x] w (ExR (.int .i64 r) w) := by
  have HF := Lib.hid (fun (w : World) => latAt_iso a f ByteArray.empty 0 0 x r w hI)
  clear hI
  go_enter Tryz.func44, Tryz.ntmps44
  go_wp2_with (first
    | (go_at_call 71; go_must (refine (HF.out _).mono ?_; rintro e w2 ⟨rfl, hx⟩; have hw := (ext1 hx).2)))
  go_ret
  exact ⟨rfl, hw⟩
end Go.Proofs.YtmmifmlkhmdgaaaGreatDoor
