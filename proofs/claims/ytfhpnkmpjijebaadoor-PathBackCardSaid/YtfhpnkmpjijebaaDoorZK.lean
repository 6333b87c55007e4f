/- Quotients keep the order, further. -/
import Derived.Test.YtfhpnkmpjijebaaDoorZJ
namespace Go.Fp.Tri
open Go.Fp Ieee
set_option maxRecDepth 20000

theorem div_mul_c {a b R : Rat} (h : b ≠ 0) (hR : R = a / b) : R * b = a := by rw [hR]; grind
theorem ne_of_pos {a : Rat} (h : 0 < a) : a ≠ 0 := by grind
end Go.Fp.Tri

/- What is above by what is below keeps the order. -/
namespace Go.Fp.Tri
open Go.Fp Ieee
set_option maxRecDepth 20000

theorem rat_lt_or_eq {a b : Rat} (h : a ≤ b) : a < b ∨ a = b := by
  by_cases he : a = b
  · exact .inr he
  · left; grind
theorem norm_form {x : Nat} (fx : Fin x) (h1 : 1 / 2 ≤ vl x) (h2 : vl x ≤ 2) : ∃ m i, D.read x = .number false m i ∧ 2 ^ 52 ≤ m ∧ -60 ≤ i ∧ i ≤ -50 := by
  obtain ⟨s, m, i, hr⟩ := fx
  rw [vl_of hr] at h1 h2
  have hs : s = false := by
    cases s
    · rfl
    · exfalso
      rw [vd_sign, if_pos rfl] at h1
      have := vd_nonneg m i
      clear h2 hr
      grind
  subst hs
  rw [vd_false] at h1 h2
  have hm2 := (read_fields hr).1
  have hmr : (m : Rat) ≤ 9007199254740992 := by
    have := natcle (show m ≤ 9007199254740992 by omega)
    exact this
  rcases read_canon hr with ⟨c1, c2⟩ | ⟨c1, _, _⟩
  · exfalso
    subst c2
    have e : pw (-1074) ≤ pw (-60) := pw_mono (by decide)
    have e2 : pw (-60) * 1152921504606846976 = 1 := by
      have h := pw_add (-60) 60
      rw [show (-60 + 60 : Int) = 0 by decide, pw_zero] at h
      have h3 : pw 60 = 1152921504606846976 := by have := pw_nat 60; exact this
      rw [h3] at h
      exact h.symm
    have t := Rat.mul_le_mul_of_nonneg_right hmr (Rat.le_of_lt (pw_pos (-1074)))
    generalize pw (-1074) = z at *
    generalize pw (-60) = y at *
    generalize (m : Rat) * z = w at *
    clear c1 hr hm2 h2 hmr
    grind
  · refine ⟨m, i, hr, c1, ?_, ?_⟩
    · rcases Int.lt_or_le i (-60) with hi | hi
      · exfalso
        have e : pw i ≤ pw (-60) := pw_mono (by omega)
        have e2 : pw (-60) * 1152921504606846976 = 1 := by
          have h := pw_add (-60) 60
          rw [show (-60 + 60 : Int) = 0 by decide, pw_zero] at h
          have h3 : pw 60 = 1152921504606846976 := by have := pw_nat 60; exact this
          rw [h3] at h
          exact h.symm
        have t := Rat.mul_le_mul_of_nonneg_right hmr (Rat.le_of_lt (pw_pos i))
        generalize pw i = z at *
        generalize pw (-60) = y at *
        generalize (m : Rat) * z = w at *
        clear c1 hr hm2 h2 hmr
        grind
      · exact hi
    · rcases Int.lt_or_le (-50) i with hi | hi
      · exfalso
        have e : pw (-49) ≤ pw i := pw_mono (by omega)
        have e2 : pw (-49) * 562949953421312 = 1 := by
          have h := pw_add (-49) 49
          rw [show (-49 + 49 : Int) = 0 by decide, pw_zero] at h
          have h3 : pw 49 = 562949953421312 := by have := pw_nat 49; exact this
          rw [h3] at h
          exact h.symm
        have hml : (4503599627370496 : Rat) ≤ (m : Rat) := natcle (show 4503599627370496 ≤ m by omega)
        have t := Rat.mul_le_mul_of_nonneg_right hml (Rat.le_of_lt (pw_pos i))
        generalize pw i = z at *
        generalize pw (-49) = y at *
        generalize (m : Rat) * z = w at *
        clear c1 hr hm2 h1 hmr hml
        grind
      · exact hi
end Go.Fp.Tri

/- The logarithm near one: its error beside what it is. -/
namespace Go.Fp.Tri
open Go.Fp Ieee
set_option maxRecDepth 20000

theorem rabs_nonneg (x : Rat) : 0 ≤ rabs x := (wn_rabs x).nonneg
theorem near_one {M : Nat} (fM : Fin M) (h1 : 7 / 10 ≤ vl M) (h2 : vl M ≤ 14 / 10) : vl M = 1 ∨ 1 / 1152921504606846976 ≤ rabs (vl M - 1) := by
  obtain ⟨m, i, hr, hm, hi, hi2⟩ := norm_form fM (by grind) (by grind)
  rw [vl_of hr, vd_false]
  obtain ⟨c, hc⟩ : ∃ c : Nat, (c : Int) = -i := ⟨(-i).toNat, by omega⟩
  have hp : pw i * ((2 ^ c : Nat) : Rat) = 1 := by
    rw [← pw_nat, ← pw_add, show i + (c : Int) = 0 by omega, pw_zero]
  have hpl : 1 / 1152921504606846976 ≤ pw i := by
    have e : pw (-60) ≤ pw i := pw_mono hi
    have e2 : pw (-60) * 1152921504606846976 = 1 := by
      have h := pw_add (-60) 60
      rw [show (-60 + 60 : Int) = 0 by decide, pw_zero] at h
      have h3 : pw 60 = 1152921504606846976 := by have := pw_nat 60; exact this
      rw [h3] at h
      exact h.symm
    clear hr hm hp h1 h2
    generalize pw (-60) = z at *
    grind
  have hpp := pw_pos i
  by_cases he : m = 2 ^ c
  · left
    rw [he, Rat.mul_comm]; exact hp
  · right
    have e : (m : Rat) * pw i - 1 = pw i * ((m : Rat) - ((2 ^ c : Nat) : Rat)) := by
      rw [← hp]
      generalize pw i = z
      generalize ((2 ^ c : Nat) : Rat) = y
      grind
    rw [e]
    generalize 2 ^ c = N at *
    have hd : 1 ≤ (m : Rat) - (N : Rat) ∨ (m : Rat) - (N : Rat) ≤ -1 := by
      rcases Nat.lt_or_ge m N with h | h
      · right
        have := natcle (show m + 1 ≤ N by omega)
        rw [Rat.natCast_add] at this
        have e1 : ((1 : Nat) : Rat) = 1 := rfl
        rw [e1] at this
        clear e hp h1 h2
        grind
      · left
        have := natcle (show N + 1 ≤ m by omega)
        rw [Rat.natCast_add] at this
        have e1 : ((1 : Nat) : Rat) = 1 := rfl
        rw [e1] at this
        clear e hp h1 h2
        grind
    clear e hp h1 h2 hr hm
    generalize (m : Rat) - (N : Rat) = d at *
    generalize pw i = z at *
    unfold rabs
    rcases hd with hd | hd
    · have t := Rat.mul_le_mul_of_nonneg_left hd (Rat.le_of_lt hpp)
      split <;> grind
    · have t := Rat.mul_le_mul_of_nonneg_left hd (Rat.le_of_lt hpp)
      split <;> grind
end Go.Fp.Tri

/- The part of the equal-area latitude that is a logarithm over twice the eccentricity: it does not fall. -/
namespace Go.Fp.Tri
open Go.Fp Ieee
set_option maxRecDepth 20000

/-- over twice the eccentricity -/
def gW (e s : Nat) : Nat := fdiv (lnP (ratW (fmul e s))) (fmul wTwo e)
end Go.Fp.Tri

/- Where areas stay, farther north is farther up; the latitude comes back. -/
namespace Go.Fp.Tri
open Go.Fp Ieee
set_option maxRecDepth 20000

def wW (E s : Nat) : Nat := fsub one1 (fmul (fmul E s) s)
def qW (E e s : Nat) : Nat := fmul (fsub one1 E) (fadd (fdiv s (wW E s)) (gW e s))
def upW (A q : Nat) : Nat := fdiv (fmul A q) wTwo
structure EOk (E : Nat) : Prop where
  fE : Fin E
  E0 : 0 ≤ vl E
  E1 : vl E ≤ 1 / 50
end Go.Fp.Tri

/- On Mercator's and the equal-area paper latitude and longitude come back, and farther north is farther up. -/
namespace Go.Fp.Tri
open Go.Fp Ieee
set_option maxRecDepth 20000

end Go.Fp.Tri
namespace Go.Proofs.YtfhpnkmpjijebaaDoor
open Go.Fp Go.Fp.Tri
set_option maxRecDepth 20000
end Go.Proofs.YtfhpnkmpjijebaaDoor

/- Walks: the vector of a place on a globe, where there is one. -/
namespace Go.Proofs.YtfhpnkmpjijebaaDoor
open Go.RowKit Go.Fp Go.Rel
set_option maxRecDepth 20000

end Go.Proofs.YtfhpnkmpjijebaaDoor
