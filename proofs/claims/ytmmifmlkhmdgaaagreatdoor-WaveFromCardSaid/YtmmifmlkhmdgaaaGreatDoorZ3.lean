/- Walks: the greatest latitude at which a function is at most a number: package flat's found and the reference's. -/
import Derived.Test.YtmmifmlkhmdgaaaGreatDoorZ2
namespace Go.Proofs.YtmmifmlkhmdgaaaGreatDoor
open Go.RowKit Go.Fp Go.Rel
set_option maxRecDepth 20000

/-- at most -/
def leW (y X : Nat) : Bool := D.order y X == some .lt || D.order y X == some .eq
/-- r is what halving finds between lo and hi -/
inductive LatIs (g : Int → Nat) (X : Nat) : Int → Int → Int → Prop
  | done {lo hi : Int} (h : hi - lo ≤ 1) : LatIs g X lo hi lo
  | low {lo hi r : Int} (h : 1 < hi - lo) (hl : leW (g ((lo + hi) / 2)) X = true) (hr : LatIs g X ((lo + hi) / 2) hi r) : LatIs g X lo hi r
  | high {lo hi r : Int} (h : 1 < hi - lo) (hl : leW (g ((lo + hi) / 2)) X = false) (hr : LatIs g X lo ((lo + hi) / 2) r) : LatIs g X lo hi r
theorem lat_some (g : Int → Nat) (X : Nat) : ∀ (n : Nat) (lo hi : Int), (hi - lo).toNat ≤ n → ∃ r, LatIs g X lo hi r
  | 0, lo, hi, h => ⟨lo, .done (by omega)⟩
  | n + 1, lo, hi, h => by
    by_cases hd : hi - lo ≤ 1
    · exact ⟨lo, .done hd⟩
    · cases hl : leW (g ((lo + hi) / 2)) X with
      | true =>
        obtain ⟨r, hr⟩ := lat_some g X n ((lo + hi) / 2) hi (by omega)
        exact ⟨r, .low (by omega) hl hr⟩
      | false =>
        obtain ⟨r, hr⟩ := lat_some g X n lo ((lo + hi) / 2) (by omega)
        exact ⟨r, .high (by omega) hl hr⟩
theorem LatIs.bounds {g : Int → Nat} {X : Nat} {lo hi r : Int} (h : LatIs g X lo hi r) (hlt : lo < hi) : lo ≤ r ∧ r < hi := by
  induction h with
  | done h => omega
  | low h _ _ ih => have := ih (by omega); omega
  | high h _ _ ih => have := ih (by omega); omega
/-- the latitude of a number -/
abbrev LatOk (g : Int → Nat) (X : Nat) (r : Int) : Prop := LatIs g X (-89000000000) 89000000001 r
theorem leW_can {y x : Nat} {E : Nat} (hy : can y = E) : leW E (can x) = (FloatKind.f64.format.order y x == some .lt || FloatKind.f64.format.order y x == some .eq) := by
  unfold leW
  rw [← hy, order_can]
  rfl
theorem leW_yes {y x E : Nat} (hy : can y = E) (h : leW E (can x) = true) : FloatKind.f64.format.order y x = some .lt ∨ FloatKind.f64.format.order y x = some .eq := by
  rw [leW_can hy, Bool.or_eq_true, beq_iff_eq, beq_iff_eq] at h
  exact h
theorem leW_no {y x E : Nat} (hy : can y = E) (h : leW E (can x) = false) : (FloatKind.f64.format.order y x == some .lt) = false ∧ (FloatKind.f64.format.order y x == some .eq) = false := by
  rw [leW_can hy, Bool.or_eq_false_iff] at h
  exact h

set_option maxHeartbeats 8000000 in
theorem found_lat (cap : Value) (g : Int → Nat) (x : Nat) (r : Int) (w : World) (hI : LatOk g (can x) r)
    (hc : ∀ m w', Ext w w' → Calls Tryz.prog 62 #[.int .i64 m, cap] w' (FlR (g m) w')) : Calls Tryz.prog 61 #[.func (.func 62) #[] #[cap], .float .f64 x] w (ExR (.int .i64 r) w) := by
  have HC := Lib.hid hc
  have HI := Lib.hid hI
  clear hc hI
  go_enter Tryz.func61, Tryz.ntmps61
  go_wp2_with fail
  go_loopw [5, 6] (fun lv hv wr => ∃ lo hi : Int, lv = .int .i64 lo ∧ hv = .int .i64 hi ∧ LatIs g (can x) lo hi r ∧ -89000000000 ≤ lo ∧ hi ≤ 89000000001 ∧ lo < hi ∧ Ext w wr) (fun lv hv _ => (intOf hv - intOf lv).toNat)
  case atStart => exact ⟨_, _, rfl, rfl, HI.out, by omega, by omega, by omega, Ext.refl _⟩
  case round =>
    clear HI
    obtain ⟨lo, hi, rfl, rfl, hI, b1, b2, b3, hw⟩ := hrel
    cases hI with
    | done h =>
      go_wp2_with fail
      go_ret
      exact ⟨rfl, hw⟩
    | low h hl hr =>
      have HL := Lib.hid hl
      have HR := Lib.hid hr
      have S1 : (lo + hi) >>> 1 = (lo + hi) / 2 := Int.shiftRight_eq_div_pow _ _
      clear hl hr
      go_wp2_with fail
      refine (HC.out _ _ hw).mono ?_
      rintro e w2 ⟨y, rfl, hy, hx⟩
      have hw2 := hw.trans hx
      clear hw hx
      have B1 : lo < (lo + hi) / 2 := by omega
      have B2 : (lo + hi) / 2 < hi := by omega
      have HB := Lib.hid (And.intro B1 B2)
      clear B1 B2
      rcases leW_yes hy HL.out with o1 | o1
      all_goals
        go_wp2_with fail
        go_roundw
        case rel =>
          have B1 := HB.out.1
          have B2 := HB.out.2
          exact ⟨_, _, rfl, rfl, HR.out, by omega, by omega, by omega, hw2⟩
        case measure =>
          have B1 := HB.out.1
          have B2 := HB.out.2
          simp [intOf]; omega
    | high h hl hr =>
      have HL := Lib.hid hl
      have HR := Lib.hid hr
      have S1 : (lo + hi) >>> 1 = (lo + hi) / 2 := Int.shiftRight_eq_div_pow _ _
      clear hl hr
      go_wp2_with fail
      refine (HC.out _ _ hw).mono ?_
      rintro e w2 ⟨y, rfl, hy, hx⟩
      have hw2 := hw.trans hx
      clear hw hx
      have B1 : lo < (lo + hi) / 2 := by omega
      have B2 : (lo + hi) / 2 < hi := by omega
      have HB := Lib.hid (And.intro B1 B2)
      clear B1 B2
      obtain ⟨o1, o2⟩ := leW_no hy HL.out
      go_wp2_with fail
      go_roundw
      case rel =>
        have B1 := HB.out.1
        have B2 := HB.out.2
        exact ⟨_, _, rfl, rfl, HR.out, by omega, by omega, by omega, hw2⟩
      case measure =>
        have B1 := HB.out.1
        have B2 := HB.out.2
        simp [intOf]; omega
set_option maxHeartbeats 4000000 in
theorem latFn_c (a f : Nat) (n : Nat) (m : Int) (w : World) (hb : Blk w n 35 #[.float .f64 a, .float .f64 f]) : Calls Tryz.prog 62 #[.int .i64 m, ptr n] w (FlR (isoP f m) w) := by
  have c1 := hb.cell
  go_enter Tryz.func62, Tryz.ntmps62
  go_wp2_with (first
    | (go_at_call 63; go_must (refine (iso_c a f m _).mono ?_; rintro e w2 ⟨r2, rfl, hr2, hx⟩)))
  go_ret
  exact ⟨_, rfl, hr2, hx⟩
set_option maxHeartbeats 4000000 in
theorem lat_c (a f x : Nat) (r : Int) (w : World) (hI : LatOk (isoP f) (can x) r) : Calls Tryz.prog 31 #[globeV a f, .float .f64 x] w (ExR (.int .i64 r) w) := by
  have hb := Blk.new w #[.float .f64 a, .float .f64 f] 35
  have HF : Hid (Calls Tryz.prog 61 #[.func (.func 62) #[] #[ptr w.heap.size], .float .f64 x] (w.alloc (.cells #[.float .f64 a, .float .f64 f] 35)) (ExR (.int .i64 r) (w.alloc (.cells #[.float .f64 a, .float .f64 f] 35)))) :=
    found_lat _ (isoP f) x r _ hI (fun m w' hx => latFn_c a f _ m w' (hb.ext hx))
  clear hI hb
  go_enter Tryz.func31, Tryz.ntmps31
  go_wp2_with (first
    | (go_at_call 61; go_must (refine HF.out.mono ?_; rintro e w2 ⟨rfl, hx⟩; have hw := (ext1 hx).2)))
  go_ret
  exact ⟨rfl, hw⟩
end Go.Proofs.YtmmifmlkhmdgaaaGreatDoor
