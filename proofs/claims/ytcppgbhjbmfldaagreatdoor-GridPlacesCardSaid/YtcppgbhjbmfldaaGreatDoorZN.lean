/- Walks: how much longer things are on paper: package flat's and the reference's. -/
import Derived.Test.YtcppgbhjbmfldaaGreatDoorZM
namespace Go.Proofs.YtcppgbhjbmfldaaGreatDoor
open Go.RowKit Go.Fp Go.Rel
set_option maxRecDepth 20000

def wQ (f : Nat) (lat : Int) : Nat := fsub (can kOne) (fmul (fmul (eccP f) (can (sinP lat))) (can (sinP lat)))
def mQ (a f : Nat) (lat : Int) : Nat := fdiv (fmul (can a) (fsub (can kOne) (eccP f))) (fmul (wQ f lat) (fsqrt (wQ f lat)))
def rQ (n a f sc : Nat) (lat : Int) : Nat := if n = 2 then downP a f sc lat else fmul (can a) (can sc)
def acP (n a f sc : Nat) (lat : Int) : Nat := fdiv (rQ n a f sc lat) (fmul (crossP a f lat) (can (cosP lat)))
def alP (n a f sc : Nat) (lat : Int) : Nat := if n = 1 then fdiv (can kOne) (acP n a f sc lat) else fdiv (fdiv (fmul (rQ n a f sc lat) (fsub (can kOne) (eccP f))) (fmul (wQ f lat) (can (cosP lat)))) (mQ a f lat)
def StrR (A : Nat → Addr) (k : Int) (X Y : Nat) (w : World) (e : Ending) (w' : World) : Prop := ∃ x y v, e = .returned (.tuple #[.float .f64 x, .float .f64 y, v]) ∧ ErrOf A k v ∧ can x = X ∧ can y = Y ∧ Ext w w'
def StrQ (X Y : Nat) (w : World) (e : Ending) (w' : World) : Prop := ∃ x y, e = .returned (.tuple #[.float .f64 x, .float .f64 y]) ∧ can x = X ∧ can y = Y ∧ Ext w w'

end Go.Proofs.YtcppgbhjbmfldaaGreatDoor

/- The walk of the statement FlatStretch. -/
namespace Go.Proofs.YtcppgbhjbmfldaaGreatDoor
open Go.RowKit Go.Fp Go.Rel
set_option maxRecDepth 20000

theorem can_zero {x : Nat} (h : can x = 0) : x = 0 := by
  cases hn : isNan x with
  | false => rw [can_of_not hn] at h; exact h
  | true => rw [can_of_nan hn] at h; exact absurd h (by decide)
def isStr (A : Nat → Addr) (k : Int) (X Y : Nat) (v : Value) : Prop := ∃ x y u, v = .tuple #[.float .f64 x, .float .f64 y, u] ∧ ErrOf A k u ∧ can x = X ∧ can y = Y
theorem StrR.call {P : Program} {f : FuncId} {args : Array Value} {A : Nat → Addr} {k : Int} {X Y : Nat} {W : World} (h : Calls P f args W (StrR A k X Y W)) : Calls P f args W (fun e w' => ∃ v, e = .returned v ∧ isStr A k X Y v ∧ Ext W w') :=
  h.mono fun _ _ ⟨x, y, u, he, hu, hx, hy, hw⟩ => ⟨_, he, ⟨x, y, u, rfl, hu, hx, hy⟩, hw⟩
end Go.Proofs.YtcppgbhjbmfldaaGreatDoor

/- Walks: the greatest latitude at which a function is at most a number: package flat's found and the reference's. -/
namespace Go.Proofs.YtcppgbhjbmfldaaGreatDoor
open Go.RowKit Go.Fp Go.Rel
set_option maxRecDepth 20000

/-- at most -/
def leW (y X : Nat) : Bool := D.order y X == some .lt || D.order y X == some .eq
/-- r is what halving finds between lo and hi -/
inductive LatIs (g : Int → Nat) (X : Nat) : Int → Int → Int → Prop
  | done {lo hi : Int} (h : hi - lo ≤ 1) : LatIs g X lo hi lo
  | low {lo hi r : Int} (h : 1 < hi - lo) (hl : leW (g ((lo + hi) / 2)) X = true) (hr : LatIs g X ((lo + hi) / 2) hi r) : LatIs g X lo hi r
  | high {lo hi r : Int} (h : 1 < hi - lo) (hl : leW (g ((lo + hi) / 2)) X = false) (hr : LatIs g X lo ((lo + hi) / 2) r) : LatIs g X lo hi r
theorem lat_some (g : Int → Nat) (X : Nat) : ∀ (n : Nat) (lo hi : Int), (hi - lo).toNat ≤ n → ∃ r, LatIs g X lo hi r
  | 0, lo, hi, h => ⟨lo, .done (by omega)⟩
  | n + 1, lo, hi, h => by
    by_cases hd : hi - lo ≤ 1
    · exact ⟨lo, .done hd⟩
    · cases hl : leW (g ((lo + hi) / 2)) X with
      | true =>
        obtain ⟨r, hr⟩ := lat_some g X n ((lo + hi) / 2) hi (by omega)
        exact ⟨r, .low (by omega) hl hr⟩
      | false =>
        obtain ⟨r, hr⟩ := lat_some g X n lo ((lo + hi) / 2) (by omega)
        exact ⟨r, .high (by omega) hl hr⟩
theorem LatIs.bounds {g : Int → Nat} {X : Nat} {lo hi r : Int} (h : LatIs g X lo hi r) (hlt : lo < hi) : lo ≤ r ∧ r < hi := by
  induction h with
  | done h => omega
  | low h _ _ ih => have := ih (by omega); omega
  | high h _ _ ih => have := ih (by omega); omega
/-- the latitude of a number -/
abbrev LatOk (g : Int → Nat) (X : Nat) (r : Int) : Prop := LatIs g X (-89000000000) 89000000001 r
theorem leW_can {y x : Nat} {E : Nat} (hy : can y = E) : leW E (can x) = (FloatKind.f64.format.order y x == some .lt || FloatKind.f64.format.order y x == some .eq) := by
  unfold leW
  rw [← hy, order_can]
  rfl
theorem leW_yes {y x E : Nat} (hy : can y = E) (h : leW E (can x) = true) : FloatKind.f64.format.order y x = some .lt ∨ FloatKind.f64.format.order y x = some .eq := by
  rw [leW_can hy, Bool.or_eq_true, beq_iff_eq, beq_iff_eq] at h
  exact h
theorem leW_no {y x E : Nat} (hy : can y = E) (h : leW E (can x) = false) : (FloatKind.f64.format.order y x == some .lt) = false ∧ (FloatKind.f64.format.order y x == some .eq) = false := by
  rw [leW_can hy, Bool.or_eq_false_iff] at h
  exact h

set_option maxHeartbeats 8000000 in
theorem found_lat (cap : Value) (g : Int → Nat) (x : Nat) (r : Int) (w : World) (hI : LatOk g (can x) r)
    (hc : ∀ m w', Ext w w' → Calls Tryz.prog 90 #[.int .i64 m, cap] w' (FlR (g m) w')) : Calls Tryz.prog 89 #[.func (.func 90) #[] #[cap], .float .f64 x] w (ExR (.int .i64 r) w) := by
  have HC := Lib.hid hc
  have HI := Lib.hid hI
  clear hc hI
  go_enter Tryz.func89, Tryz.ntmps89
  go_wp2_with fail
  go_loopw [5, 6] (fun lv hv wr => ∃ lo hi : Int, lv = .int .i64 lo ∧ hv = .int .i64 hi ∧ LatIs g (can x) lo hi r ∧ -89000000000 ≤ lo ∧ hi ≤ 89000000001 ∧ lo < hi ∧ Ext w wr) (fun lv hv _ => (intOf hv - intOf lv).toNat)
  case atStart => exact ⟨_, _, rfl, rfl, HI.out, by omega, by omega, by omega, Ext.refl _⟩
  case round =>
    clear HI
    obtain ⟨lo, hi, rfl, rfl, hI, b1, b2, b3, hw⟩ := hrel
    cases hI with
    | done h =>
      go_wp2_with fail
      go_ret
      exact ⟨rfl, hw⟩
    | low h hl hr =>
      have HL := Lib.hid hl
      have HR := Lib.hid hr
      have S1 : (lo + hi) >>> 1 = (lo + hi) / 2 := Int.shiftRight_eq_div_pow _ _
      clear hl hr
      go_wp2_with fail
      refine (HC.out _ _ hw).mono ?_
      rintro e w2 ⟨y, rfl, hy, hx⟩
      have hw2 := hw.trans hx
      clear hw hx
      have B1 : lo < (lo + hi) / 2 := by omega
      have B2 : (lo + hi) / 2 < hi := by omega
      have HB := Lib.hid (And.intro B1 B2)
      clear B1 B2
      rcases leW_yes hy HL.out with o1 | o1
      all_goals
        go_wp2_with fail
        go_roundw
        case rel =>
          have B1 := HB.out.1
          have B2 := HB.out.2
          exact ⟨_, _, rfl, rfl, HR.out, by omega, by omega, by omega, hw2⟩
        case measure =>
          have B1 := HB.out.1
          have B2 := HB.out.2
          simp [intOf]; omega
    | high h hl hr =>
      have HL := Lib.hid hl
      have HR := Lib.hid hr
      have S1 : (lo + hi) >>> 1 = (lo + hi) / 2 := Int.shiftRight_eq_div_pow _ _
      clear hl hr
      go_wp2_with fail
      refine (HC.out _ _ hw).mono ?_
      rintro e w2 ⟨y, rfl, hy, hx⟩
      have hw2 := hw.trans hx
      clear hw hx
      have B1 : lo < (lo + hi) / 2 := by omega
      have B2 : (lo + hi) / 2 < hi := by omega
      have HB := Lib.hid (And.intro B1 B2)
      clear B1 B2
      obtain ⟨o1, o2⟩ := leW_no hy HL.out
      go_wp2_with fail
      go_roundw
      case rel =>
        have B1 := HB.out.1
        have B2 := HB.out.2
        exact ⟨_, _, rfl, rfl, HR.out, by omega, by omega, by omega, hw2⟩
      case measure =>
        have B1 := HB.out.1
        have B2 := HB.out.2
        simp [intOf]; omega
set_option maxHeartbeats 4000000 in
theorem latFn_c (a f : Nat) (n : Nat) (m : Int) (w : World) (hb : Blk w n 51 #[.float .f64 a, .float .f64 f]) : Calls Tryz.prog 90 #[.int .i64 m, ptr n] w (FlR (isoP f m) w) := by
  have c1 := hb.cell
  go_enter Tryz.func90, Tryz.ntmps90
  go_wp2_with (first
    | (go_at_call 64; go_must (refine (iso_c a f m _).mono ?_; rintro e w2 ⟨r2, rfl, hr2, hx⟩)))
  go_ret
  exact ⟨_, rfl, hr2, hx⟩
set_option maxHeartbeats 4000000 in
theorem lat_c (a f x : Nat) (r : Int) (w : World) (hI : LatOk (isoP f) (can x) r) : Calls Tryz.prog 58 #[globeV a f, .float .f64 x] w (ExR (.int .i64 r) w) := by
  have hb := Blk.new w #[.float .f64 a, .float .f64 f] 51
  have HF : Hid (Calls Tryz.prog 89 #[.func (.func 90) #[] #[ptr w.heap.size], .float .f64 x] (w.alloc (.cells #[.float .f64 a, .float .f64 f] 51)) (ExR (.int .i64 r) (w.alloc (.cells #[.float .f64 a, .float .f64 f] 51)))) :=
    found_lat _ (isoP f) x r _ hI (fun m w' hx => latFn_c a f _ m w' (hb.ext hx))
  clear hI hb
  go_enter Tryz.func58, Tryz.ntmps58
  go_wp2_with (first
    | (go_at_call 89; go_must (refine HF.out.mono ?_; rintro e w2 ⟨rfl, hx⟩; have hw := (ext1 hx).2)))
  go_ret
  exact ⟨rfl, hw⟩
end Go.Proofs.YtcppgbhjbmfldaaGreatDoor

/- Walks: the greatest latitude at which a function is at most a number: the reference's. -/
namespace Go.Proofs.YtcppgbhjbmfldaaGreatDoor
open Go.RowKit Go.Fp Go.Rel
set_option maxRecDepth 20000

set_option maxHeartbeats 8000000 in
theorem latAt_up (a f : Nat) (s : ByteArray) (mid : Int) (sc x : Nat) (r : Int) (w : World) (hI : LatOk (upP a f sc) (can x) r) : Calls Tryz.prog 92 #[paperV a f s mid sc, .bool true, .float .f64 x] w (ExR (.int .i64 r) w) := by
  have HC : Hid (∀ m w', Ext w w' → Calls Tryz.prog 106 #[paperV a f s mid sc, .int .i64 m] w' (FlR (upP a f sc m) w')) := Lib.hid (fun m w' _ => upOf_c a f s mid sc m w')
  have HI := Lib.hid hI
  have HN := Blk.new w #[.float .f64 a, .float .f64 f, .string s, .int .i64 mid, .float .f64 sc] 142
  have hw0 : Ext w (w.alloc (.cells #[.float .f64 a, .float .f64 f, .string s, .int .i64 mid, .float .f64 sc] 142)) := (Ext.refl w).alloc _
  generalize hg : upP a f sc = g at *
  clear hI hg
  go_enter Tryz.func92, Tryz.ntmps92
  go_wp2_with fail
  go_loopw [7, 8] (fun lv hv wr => ∃ lo hi : Int, lv = .int .i64 lo ∧ hv = .int .i64 hi ∧ LatIs g (can x) lo hi r ∧ -89000000000 ≤ lo ∧ hi ≤ 89000000001 ∧ lo < hi ∧ Ext w wr ∧ Blk wr w.heap.size 142 #[.float .f64 a, .float .f64 f, .string s, .int .i64 mid, .float .f64 sc]) (fun lv hv _ => (intOf hv - intOf lv).toNat)
  case atStart => exact ⟨_, _, rfl, rfl, HI.out, by omega, by omega, by omega, hw0, HN⟩
  case round =>
    clear HI HN hw0
    obtain ⟨lo, hi, rfl, rfl, hI, b1, b2, b3, hw, hb⟩ := hrel
    cases hI with
    | done h =>
      go_wp2_with fail
      go_ret
      exact ⟨rfl, hw⟩
    | low h hl hr =>
      rcases (show (lo + hi) % 2 = 0 ∨ (lo + hi) % 2 = 1 by omega) with hpar | hpar
      · obtain ⟨k, hk⟩ : ∃ k, lo + hi = 2 * k := ⟨(lo + hi) / 2, by omega⟩
        have P1 : (lo + hi).tmod 2 = 0 := Int.tmod_eq_zero_of_dvd ⟨k, hk⟩
        have Q1 : (hi - lo).tdiv 2 = k - lo := by rw [show hi - lo = 2 * (k - lo) by omega]; exact Int.mul_tdiv_cancel_left _ (by decide)
        have E1 : (lo + hi) / 2 = k := by omega
        have R1 : lo + (k - lo) = k := by omega
        have B1 : lo < k := by omega
        have B2 : k < hi := by omega
        rw [E1] at hl hr
        have HL := Lib.hid hl
        have HR := Lib.hid hr
        have HB := Lib.hid (And.intro b1 (And.intro b2 (And.intro B1 B2)))
        clear hl hr E1 hk
        have c1 := hb.cell
        go_wp2_with fail
        refine (HC.out _ _ hw).mono ?_
        rintro e w2 ⟨y, rfl, hy, hx⟩
        have hb2 := hb.ext hx
        have hw2 := hw.trans hx
        clear hw hx c1 hb
        rcases leW_yes hy HL.out with o1 | o1
        all_goals
          go_wp2_with fail
          go_roundw
          case rel =>
            obtain ⟨b1, b2, B1, B2⟩ := HB.out
            exact ⟨_, _, rfl, rfl, HR.out, by omega, by omega, by omega, hw2, hb2⟩
          case measure =>
            obtain ⟨b1, b2, B1, B2⟩ := HB.out
            simp [intOf]; omega
      · obtain ⟨k, hk⟩ : ∃ k, lo + hi = 2 * k + 1 := ⟨(lo + hi) / 2, by omega⟩
        have P1 : ¬ (lo + hi).tmod 2 = 0 := fun h => by obtain ⟨j, hj⟩ := Int.dvd_of_tmod_eq_zero h; omega
        have Q1 : (hi - lo).tdiv 2 = (hi - lo) / 2 := Int.tdiv_eq_ediv_of_nonneg (by omega)
        have R1 : (lo + hi - 1).tdiv 2 = k := by rw [show lo + hi - 1 = 2 * k by omega]; exact Int.mul_tdiv_cancel_left _ (by decide)
        have E1 : (lo + hi) / 2 = k := by omega
        have B1 : lo < k := by omega
        have B2 : k < hi := by omega
        rw [E1] at hl hr
        have HL := Lib.hid hl
        have HR := Lib.hid hr
        have HB := Lib.hid (And.intro b1 (And.intro b2 (And.intro B1 B2)))
        clear hl hr E1 hk
        have c1 := hb.cell
        go_wp2_with fail
        refine (HC.out _ _ hw).mono ?_
        rintro e w2 ⟨y, rfl, hy, hx⟩
        have hb2 := hb.ext hx
        have hw2 := hw.trans hx
        clear hw hx c1 hb
        rcases leW_yes hy HL.out with o1 | o1
        all_goals
          go_wp2_with fail
          go_roundw
          case rel =>
            obtain ⟨b1, b2, B1, B2⟩ := HB.out
            exact ⟨_, _, rfl, rfl, HR.out, by omega, by omega, by omega, hw2, hb2⟩
          case measure =>
            obtain ⟨b1, b2, B1, B2⟩ := HB.out
            simp [intOf]; omega
    | high h hl hr =>
      rcases (show (lo + hi) % 2 = 0 ∨ (lo + hi) % 2 = 1 by omega) with hpar | hpar
      · obtain ⟨k, hk⟩ : ∃ k, lo + hi = 2 * k := ⟨(lo + hi) / 2, by omega⟩
        have P1 : (lo + hi).tmod 2 = 0 := Int.tmod_eq_zero_of_dvd ⟨k, hk⟩
        have Q1 : (hi - lo).tdiv 2 = k - lo := by rw [show hi - lo = 2 * (k - lo) by omega]; exact Int.mul_tdiv_cancel_left _ (by decide)
        have E1 : (lo + hi) / 2 = k := by omega
        have R1 : lo + (k - lo) = k := by omega
        have B1 : lo < k := by omega
        have B2 : k < hi := by omega
        rw [E1] at hl hr
        have HL := Lib.hid hl
        have HR := Lib.hid hr
        have HB := Lib.hid (And.intro b1 (And.intro b2 (And.intro B1 B2)))
        clear hl hr E1 hk
        have c1 := hb.cell
        go_wp2_with fail
        refine (HC.out _ _ hw).mono ?_
        rintro e w2 ⟨y, rfl, hy, hx⟩
        have hb2 := hb.ext hx
        have hw2 := hw.trans hx
        clear hw hx c1 hb
        obtain ⟨o1, o2⟩ := leW_no hy HL.out
        go_wp2_with fail
        go_roundw
        case rel =>
          obtain ⟨b1, b2, B1, B2⟩ := HB.out
          exact ⟨_, _, rfl, rfl, HR.out, by omega, by omega, by omega, hw2, hb2⟩
        case measure =>
          obtain ⟨b1, b2, B1, B2⟩ := HB.out
          simp [intOf]; omega
      · obtain ⟨k, hk⟩ : ∃ k, lo + hi = 2 * k + 1 := ⟨(lo + hi) / 2, by omega⟩
        have P1 : ¬ (lo + hi).tmod 2 = 0 := fun h => by obtain ⟨j, hj⟩ := Int.dvd_of_tmod_eq_zero h; omega
        have Q1 : (hi - lo).tdiv 2 = (hi - lo) / 2 := Int.tdiv_eq_ediv_of_nonneg (by omega)
        have R1 : (lo + hi - 1).tdiv 2 = k := by rw [show lo + hi - 1 = 2 * k by omega]; exact Int.mul_tdiv_cancel_left _ (by decide)
        have E1 : (lo + hi) / 2 = k := by omega
        have B1 : lo < k := by omega
        have B2 : k < hi := by omega
        rw [E1] at hl hr
        have HL := Lib.hid hl
        have HR := Lib.hid hr
        have HB := Lib.hid (And.intro b1 (And.intro b2 (And.intro B1 B2)))
        clear hl hr E1 hk
        have c1 := hb.cell
        go_wp2_with fail
        refine (HC.out _ _ hw).mono ?_
        rintro e w2 ⟨y, rfl, hy, hx⟩
        have hb2 := hb.ext hx
        have hw2 := hw.trans hx
        clear hw hx c1 hb
        obtain ⟨o1, o2⟩ := leW_no hy HL.out
        go_wp2_with fail
        go_roundw
        case rel =>
          obtain ⟨b1, b2, B1, B2⟩ := HB.out
          exact ⟨_, _, rfl, rfl, HR.out, by omega, by omega, by omega, hw2, hb2⟩
        case measure =>
          obtain ⟨b1, b2, B1, B2⟩ := HB.out
          simp [intOf]; omega
set_option maxHeartbeats 8000000 in
theorem latAt_iso (a f : Nat) (s : ByteArray) (mid : Int) (sc x : Nat) (r : Int) (w : World) (hI : LatOk (isoP f) (can x) r) : Calls Tryz.prog 92 #[paperV a f s mid sc, .bool false, .float .f64 x] w (ExR (.int .i64 r) w) := by
  have HC : Hid (∀ m w', Ext w w' → Calls Tryz.prog 40 #[globeV a f, .int .i64 m] w' (FlR (isoP f m) w')) := Lib.hid (fun m w' _ => isoOf_c a f m w')
  have HI := Lib.hid hI
  have HN := Blk.new w #[.float .f64 a, .float .f64 f, .string s, .int .i64 mid, .float .f64 sc] 142
  have hw0 : Ext w (w.alloc (.cells #[.float .f64 a, .float .f64 f, .string s, .int .i64 mid, .float .f64 sc] 142)) := (Ext.refl w).alloc _
  generalize hg : isoP f = g at *
  clear hI hg
  go_enter Tryz.func92, Tryz.ntmps92
  go_wp2_with fail
  go_loopw [7, 8] (fun lv hv wr => ∃ lo hi : Int, lv = .int .i64 lo ∧ hv = .int .i64 hi ∧ LatIs g (can x) lo hi r ∧ -89000000000 ≤ lo ∧ hi ≤ 89000000001 ∧ lo < hi ∧ Ext w wr ∧ Blk wr w.heap.size 142 #[.float .f64 a, .float .f64 f, .string s, .int .i64 mid, .float .f64 sc]) (fun lv hv _ => (intOf hv - intOf lv).toNat)
  case atStart => exact ⟨_, _, rfl, rfl, HI.out, by omega, by omega, by omega, hw0, HN⟩
  case round =>
    clear HI HN hw0
    obtain ⟨lo, hi, rfl, rfl, hI, b1, b2, b3, hw, hb⟩ := hrel
    cases hI with
    | done h =>
      go_wp2_with fail
      go_ret
      exact ⟨rfl, hw⟩
    | low h hl hr =>
      rcases (show (lo + hi) % 2 = 0 ∨ (lo + hi) % 2 = 1 by omega) with hpar | hpar
      · obtain ⟨k, hk⟩ : ∃ k, lo + hi = 2 * k := ⟨(lo + hi) / 2, by omega⟩
        have P1 : (lo + hi).tmod 2 = 0 := Int.tmod_eq_zero_of_dvd ⟨k, hk⟩
        have Q1 : (hi - lo).tdiv 2 = k - lo := by rw [show hi - lo = 2 * (k - lo) by omega]; exact Int.mul_tdiv_cancel_left _ (by decide)
        have E1 : (lo + hi) / 2 = k := by omega
        have R1 : lo + (k - lo) = k := by omega
        have B1 : lo < k := by omega
        have B2 : k < hi := by omega
        rw [E1] at hl hr
        have HL := Lib.hid hl
        have HR := Lib.hid hr
        have HB := Lib.hid (And.intro b1 (And.intro b2 (And.intro B1 B2)))
        clear hl hr E1 hk
        have c1 := hb.cell
        go_wp2_with fail
        refine (HC.out _ _ hw).mono ?_
        rintro e w2 ⟨y, rfl, hy, hx⟩
        have hb2 := hb.ext hx
        have hw2 := hw.trans hx
        clear hw hx c1 hb
        rcases leW_yes hy HL.out with o1 | o1
        all_goals
          go_wp2_with fail
          go_roundw
          case rel =>
            obtain ⟨b1, b2, B1, B2⟩ := HB.out
            exact ⟨_, _, rfl, rfl, HR.out, by omega, by omega, by omega, hw2, hb2⟩
          case measure =>
            obtain ⟨b1, b2, B1, B2⟩ := HB.out
            simp [intOf]; omega
      · obtain ⟨k, hk⟩ : ∃ k, lo + hi = 2 * k + 1 := ⟨(lo + hi) / 2, by omega⟩
        have P1 : ¬ (lo + hi).tmod 2 = 0 := fun h => by obtain ⟨j, hj⟩ := Int.dvd_of_tmod_eq_zero h; omega
        have Q1 : (hi - lo).tdiv 2 = (hi - lo) / 2 := Int.tdiv_eq_ediv_of_nonneg (by omega)
        have R1 : (lo + hi - 1).tdiv 2 = k := by rw [show lo + hi - 1 = 2 * k by omega]; exact Int.mul_tdiv_cancel_left _ (by decide)
        have E1 : (lo + hi) / 2 = k := by omega
        have B1 : lo < k := by omega
        have B2 : k < hi := by omega
        rw [E1] at hl hr
        have HL := Lib.hid hl
        have HR := Lib.hid hr
        have HB := Lib.hid (And.intro b1 (And.intro b2 (And.intro B1 B2)))
        clear hl hr E1 hk
        have c1 := hb.cell
        go_wp2_with fail
        refine (HC.out _ _ hw).mono ?_
        rintro e w2 ⟨y, rfl, hy, hx⟩
        have hb2 := hb.ext hx
        have hw2 := hw.trans hx
        clear hw hx c1 hb
        rcases leW_yes hy HL.out with o1 | o1
        all_goals
          go_wp2_with fail
          go_roundw
          case rel =>
            obtain ⟨b1, b2, B1, B2⟩ := HB.out
            exact ⟨_, _, rfl, rfl, HR.out, by omega, by omega, by omega, hw2, hb2⟩
          case measure =>
            obtain ⟨b1, b2, B1, B2⟩ := HB.out
            simp [intOf]; omega
    | high h hl hr =>
      rcases (show (lo + hi) % 2 = 0 ∨ (lo + hi) % 2 = 1 by omega) with hpar | hpar
      · obtain ⟨k, hk⟩ : ∃ k, lo + hi = 2 * k := ⟨(lo + hi) / 2, by omega⟩
        have P1 : (lo + hi).tmod 2 = 0 := Int.tmod_eq_zero_of_dvd ⟨k, hk⟩
        have Q1 : (hi - lo).tdiv 2 = k - lo := by rw [show hi - lo = 2 * (k - lo) by omega]; exact Int.mul_tdiv_cancel_left _ (by decide)
        have E1 : (lo + hi) / 2 = k := by omega
        have R1 : lo + (k - lo) = k := by omega
        have B1 : lo < k := by omega
        have B2 : k < hi := by omega
        rw [E1] at hl hr
        have HL := Lib.hid hl
        have HR := Lib.hid hr
        have HB := Lib.hid (And.intro b1 (And.intro b2 (And.intro B1 B2)))
        clear hl hr E1 hk
        have c1 := hb.cell
        go_wp2_with fail
        refine (HC.out _ _ hw).mono ?_
        rintro e w2 ⟨y, rfl, hy, hx⟩
        have hb2 := hb.ext hx
        have hw2 := hw.trans hx
        clear hw hx c1 hb
        obtain ⟨o1, o2⟩ := leW_no hy HL.out
        go_wp2_with fail
        go_roundw
        case rel =>
          obtain ⟨b1, b2, B1, B2⟩ := HB.out
          exact ⟨_, _, rfl, rfl, HR.out, by omega, by omega, by omega, hw2, hb2⟩
        case measure =>
          obtain ⟨b1, b2, B1, B2⟩ := HB.out
          simp [intOf]; omega
      · obtain ⟨k, hk⟩ : ∃ k, lo + hi = 2 * k + 1 := ⟨(lo + hi) / 2, by omega⟩
        have P1 : ¬ (lo + hi).tmod 2 = 0 := fun h => by obtain ⟨j, hj⟩ := Int.dvd_of_tmod_eq_zero h; omega
        have Q1 : (hi - lo).tdiv 2 = (hi - lo) / 2 := Int.tdiv_eq_ediv_of_nonneg (by omega)
        have R1 : (lo + hi - 1).tdiv 2 = k := by rw [show lo + hi - 1 = 2 * k by omega]; exact Int.mul_tdiv_cancel_left _ (by decide)
        have E1 : (lo + hi) / 2 = k := by omega
        have B1 : lo < k := by omega
        have B2 : k < hi := by omega
        rw [E1] at hl hr
        have HL := Lib.hid hl
        have HR := Lib.hid hr
        have HB := Lib.hid (And.intro b1 (And.intro b2 (And.intro B1 B2)))
        clear hl hr E1 hk
        have c1 := hb.cell
        go_wp2_with fail
        refine (HC.out _ _ hw).mono ?_
        rintro e w2 ⟨y, rfl, hy, hx⟩
        have hb2 := hb.ext hx
        have hw2 := hw.trans hx
        clear hw hx c1 hb
        obtain ⟨o1, o2⟩ := leW_no hy HL.out
        go_wp2_with fail
        go_roundw
        case rel =>
          obtain ⟨b1, b2, B1, B2⟩ := HB.out
          exact ⟨_, _, rfl, rfl, HR.out, by omega, by omega, by omega, hw2, hb2⟩
        case measure =>
          obtain ⟨b1, b2, B1, B2⟩ := HB.out
          simp [intOf]; omega
set_option maxHeartbeats 4000000 in
theorem latOf_c (a f x : Nat) (r : Int) (w : World) (hI : LatOk (isoP f) (can x) r) : Calls Tryz.prog 62 #[globeV a f, .float .f64 x] w (ExR (.int .i64 r) w) := by
  have HF := Lib.hid (fun (w : World) => latAt_iso a f ByteArray.empty 0 0 x r w hI)
  clear hI
  go_enter Tryz.func62, Tryz.ntmps62
  go_wp2_with (first
    | (go_at_call 92; go_must (refine (HF.out _).mono ?_; rintro e w2 ⟨rfl, hx⟩; have hw := (ext1 hx).2)))
  go_ret
  exact ⟨rfl, hw⟩
end Go.Proofs.YtcppgbhjbmfldaaGreatDoor
