/- Reading a reference's text: the program and the document answer alike; parse of print. -/
import Derived.Test.YteebbcdbkkliaaaDoorCH
namespace Go.Proofs.YteebbcdbkkliaaaDoor
open Go.RowKit Go.Fp Go.Rel Go.Lib
set_option maxRecDepth 20000

/-- so many that hold, and then one that does not -/
theorem exN (p : Nat → Prop) : ∀ m : Nat, ∃ N, N ≤ m ∧ (∀ j < N, p j) ∧ (N < m → ¬ p N)
  | 0 => ⟨0, by omega, fun j h => by omega, fun h => by omega⟩
  | m + 1 => by
    obtain ⟨N, h1, h2, h3⟩ := exN p m
    rcases Nat.lt_or_ge N m with h | h
    · exact ⟨N, by omega, h2, fun _ => h3 h⟩
    · obtain rfl : N = m := by omega
      by_cases hp : p N
      · exact ⟨N + 1, by omega, fun j hj => by
          rcases Nat.lt_or_ge j N with h' | h'
          · exact h2 j h'
          · obtain rfl : j = N := by omega
            exact hp, fun h => by omega⟩
      · exact ⟨N, by omega, h2, fun _ => hp⟩
/-- what a part of a text says: that it is good (-1), or where it is bad -/
def PartSp (t : ByteArray) (st ln : Nat) (a : Int) : Prop :=
  (a = -1 ∧ ∀ j, st ≤ j → j < st + ln → okI t j) ∨ (∃ b : Nat, a = b ∧ st ≤ b ∧ b < st + ln ∧ (∀ j, st ≤ j → j < b → okI t j) ∧ ¬ okI t b)
theorem part_bad {t : ByteArray} {st ln : Nat} {a : Int} (hp : ∀ j < st, okI t j) (h : PartSp t st ln a) (ha : 0 ≤ a) : ∃ b : Nat, a = b ∧ b < st + ln ∧ (∀ j < b, okI t j) ∧ ¬ okI t b := by
  rcases h with ⟨h1, _⟩ | ⟨b, h1, h2, h3, h4, h5⟩
  · omega
  · exact ⟨b, h1, h3, fun j hj => by
      rcases Nat.lt_or_ge j st with h' | h'
      · exact hp j h'
      · exact h4 j h' hj, h5⟩
theorem part_next {t : ByteArray} {st ln : Nat} {a : Int} (hp : ∀ j < st, okI t j) (h : PartSp t st ln a) (ha : a < 0) : ∀ j < st + ln, okI t j := by
  rcases h with ⟨h1, h2⟩ | ⟨b, h1, _⟩
  · intro j hj
    rcases Nat.lt_or_ge j st with h' | h'
    · exact hp j h'
    · exact h2 j h' hj
  · omega
theorem okI_iff_dig {t : ByteArray} {i : Nat} (h2 : i ≠ 2) (h3 : i ≠ 3) (h10 : i ≠ 10) : okI t i ↔ dig t i := by
  unfold okI dig
  rw [if_neg h2, if_neg (by omega)]
theorem part_dig (t : ByteArray) (f m N : Nat) (hf : ∀ j, f ≤ j → j < f + m → j ≠ 2 ∧ j ≠ 3 ∧ j ≠ 10) (hN : N ≤ m) (hd : ∀ j < N, dig t (f + j)) (hx : N < m → ¬ dig t (f + N)) :
    PartSp t f m (if N = m then -1 else ((f + N : Nat) : Int)) := by
  have hh : ∀ j, f ≤ j → j < f + N → okI t j := fun j h1 h2 => by
    obtain ⟨a, b, c⟩ := hf j h1 (by omega)
    rw [okI_iff_dig a b c]
    have := hd (j - f) (by omega)
    rwa [show f + (j - f) = j by omega] at this
  by_cases h : N = m
  · subst h
    rw [if_pos rfl]
    exact .inl ⟨rfl, hh⟩
  · rw [if_neg h]
    refine .inr ⟨f + N, rfl, by omega, by omega, hh, ?_⟩
    obtain ⟨a, b, c⟩ := hf (f + N) (by omega) (by omega)
    rw [okI_iff_dig a b c]
    exact hx (by omega)
open Classical in
theorem part_one (t : ByteArray) (i : Nat) : PartSp t i 1 (if okI t i then -1 else (i : Int)) := by
  by_cases h : okI t i
  · rw [if_pos h]
    exact .inl ⟨rfl, fun j h1 h2 => by obtain rfl : j = i := by omega
                                       exact h⟩
  · rw [if_neg h]
    exact .inr ⟨i, rfl, by omega, by omega, fun j h1 h2 => by omega, h⟩
theorem okI_size {t : ByteArray} {N : Nat} (h : ∀ j < N, okI t j) : N ≤ t.size := by
  rcases N with _ | N
  · omega
  · have := (h N (by omega)).1
    omega
theorem same_bad {t : ByteArray} {b N : Nat} (h1 : ∀ j < b, okI t j) (h2 : ¬ okI t b) (h3 : ∀ j < N, okI t j) (h4 : ¬ okI t N) : b = N := by
  rcases Nat.lt_trichotomy b N with h | h | h
  · exact absurd (h3 b h) h2
  · exact h
  · exact absurd (h1 N h) h4
/-- the print of a reference is a text of the form -/
theorem text_size (z : Nat) (s : Bool) (e n : Nat) : (⟨(textS z s e n).toArray⟩ : ByteArray).size = 18 := by
  show (textS z s e n).toArray.size = 18
  simp [textS, digs]
theorem text_byt (z : Nat) (s : Bool) (e n : Nat) (i : Nat) : byt ⟨(textS z s e n).toArray⟩ i = ((textS z s e n).getD i 0).toNat := rfl
theorem text_hem (z : Nat) (s : Bool) (e n : Nat) : byt ⟨(textS z s e n).toArray⟩ 2 = if s then 83 else 78 := by
  rw [text_byt]
  cases s <;> simp [textS, digs]
theorem dg_toNat (k : Nat) : (UInt8.ofNat (48 + k % 10)).toNat = 48 + k % 10 := by
  rw [UInt8.toNat_ofNat']
  omega
theorem text_okI (z : Nat) (s : Bool) (e n : Nat) : ∀ i < 18, okI ⟨(textS z s e n).toArray⟩ i := by
  intro i hi
  refine ⟨by rw [text_size]; exact hi, ?_⟩
  rw [text_byt]
  rcases i with _ | _ | _ | _ | _ | _ | _ | _ | _ | _ | _ | _ | _ | _ | _ | _ | _ | _ | i
  all_goals first
    | omega
    | (cases s <;> simp [textS, digs] <;> omega)
theorem text_zone (z : Nat) (s : Bool) (e n : Nat) (h : z < 100) : num ⟨(textS z s e n).toArray⟩ 0 2 = z := by
  simp only [num, text_byt, Nat.zero_add, Nat.add_zero]
  simp [textS, digs]
  omega
theorem text_east (z : Nat) (s : Bool) (e n : Nat) (h : e < 1000000) : num ⟨(textS z s e n).toArray⟩ 4 6 = e := by
  simp only [num, text_byt, Nat.add_zero, Nat.reduceAdd]
  simp [textS, digs]
  omega
theorem text_north (z : Nat) (s : Bool) (e n : Nat) (h : n < 10000000) : num ⟨(textS z s e n).toArray⟩ 11 7 = n := by
  simp only [num, text_byt, Nat.add_zero, Nat.reduceAdd]
  simp [textS, digs]
  omega

section
variable {t : ByteArray} {A1 A2 A3 A4 A5 A6 : Int}
theorem six_next (P1 : PartSp t 0 2 A1) (P2 : PartSp t 2 1 A2) (P3 : PartSp t 3 1 A3) (P4 : PartSp t 4 6 A4) (P5 : PartSp t 10 1 A5) (P6 : PartSp t 11 7 A6) :
    (A1 < 0 → ∀ j < 2, okI t j) ∧ (A1 < 0 → A2 < 0 → ∀ j < 3, okI t j) ∧ (A1 < 0 → A2 < 0 → A3 < 0 → ∀ j < 4, okI t j) ∧ (A1 < 0 → A2 < 0 → A3 < 0 → A4 < 0 → ∀ j < 10, okI t j) ∧
      (A1 < 0 → A2 < 0 → A3 < 0 → A4 < 0 → A5 < 0 → ∀ j < 11, okI t j) ∧ (A1 < 0 → A2 < 0 → A3 < 0 → A4 < 0 → A5 < 0 → A6 < 0 → ∀ j < 18, okI t j) := by
  have g1 : A1 < 0 → ∀ j < 2, okI t j := fun h => part_next (fun j hj => by omega) P1 h
  have g2 : A1 < 0 → A2 < 0 → ∀ j < 3, okI t j := fun a h => part_next (g1 a) P2 h
  have g3 : A1 < 0 → A2 < 0 → A3 < 0 → ∀ j < 4, okI t j := fun a b h => part_next (g2 a b) P3 h
  have g4 : A1 < 0 → A2 < 0 → A3 < 0 → A4 < 0 → ∀ j < 10, okI t j := fun a b c h => part_next (g3 a b c) P4 h
  have g5 : A1 < 0 → A2 < 0 → A3 < 0 → A4 < 0 → A5 < 0 → ∀ j < 11, okI t j := fun a b c d h => part_next (g4 a b c d) P5 h
  exact ⟨g1, g2, g3, g4, g5, fun a b c d e h => part_next (g5 a b c d e) P6 h⟩
theorem six_bad (P1 : PartSp t 0 2 A1) (P2 : PartSp t 2 1 A2) (P3 : PartSp t 3 1 A3) (P4 : PartSp t 4 6 A4) (P5 : PartSp t 10 1 A5) (P6 : PartSp t 11 7 A6) :
    ∀ p < 6, (∀ j < p, six A1 A2 A3 A4 A5 A6 j < 0) → 0 ≤ six A1 A2 A3 A4 A5 A6 p → ∃ b : Nat, six A1 A2 A3 A4 A5 A6 p = b ∧ b < 18 ∧ (∀ j < b, okI t j) ∧ ¬ okI t b := by
  obtain ⟨g1, g2, g3, g4, g5, _⟩ := six_next P1 P2 P3 P4 P5 P6
  have H : ∀ (st ln : Nat) (a : Int), st + ln ≤ 18 → (∀ j < st, okI t j) → PartSp t st ln a → 0 ≤ a → ∃ b : Nat, a = b ∧ b < 18 ∧ (∀ j < b, okI t j) ∧ ¬ okI t b := fun st ln a hl hp h ha => by
    obtain ⟨b, h1, h2, h3, h4⟩ := part_bad hp h ha
    exact ⟨b, h1, by omega, h3, h4⟩
  intro p hp hpre ha
  rcases p with _ | _ | _ | _ | _ | _ | p
  · exact H 0 2 A1 (by omega) (fun j hj => by omega) P1 ha
  · exact H 2 1 A2 (by omega) (g1 (hpre 0 (by omega))) P2 ha
  · exact H 3 1 A3 (by omega) (g2 (hpre 0 (by omega)) (hpre 1 (by omega))) P3 ha
  · exact H 4 6 A4 (by omega) (g3 (hpre 0 (by omega)) (hpre 1 (by omega)) (hpre 2 (by omega))) P4 ha
  · exact H 10 1 A5 (by omega) (g4 (hpre 0 (by omega)) (hpre 1 (by omega)) (hpre 2 (by omega)) (hpre 3 (by omega))) P5 ha
  · exact H 11 7 A6 (by omega) (g5 (hpre 0 (by omega)) (hpre 1 (by omega)) (hpre 2 (by omega)) (hpre 3 (by omega)) (hpre 4 (by omega))) P6 ha
  · omega
end

theorem byteAt_c (t : ByteArray) (i a b : Nat) (c : Prop) [Decidable c] (hc : c ↔ i < t.size ∧ (byt t i = a ∨ byt t i = b)) (w : World) :
    Calls Tryd.prog 45 #[.string t, .int .i64 i, .int .u8 a, .int .u8 b] w (ExR (.int .i64 (if c then -1 else (i : Int))) w) := by
  by_cases h : c
  · rw [if_pos h]
    have h' := hc.1 h
    exact byteAt_yes t i a b h'.1 h'.2 w
  · rw [if_neg h]
    exact byteAt_no t i a b (fun h' => h (hc.2 h')) w
theorem refError_c (z : Int) (s : Bool) (e n : Int) (c : Prop) [Decidable c] (hc : c ↔ OkRef z e n) (w : World) : Calls Tryd.prog 42 #[refV z s e n] w (ExR (.int .i64 (if c then 0 else 4)) w) := by
  by_cases h : c
  · rw [if_pos h]
    exact refError_ok z s e n (hc.1 h) w
  · rw [if_neg h]
    exact refError_bad z s e n (fun h' => h (hc.2 h')) w

open Classical in
theorem read_both {A : Nat → Addr} (t : ByteArray) : ∃ (z : Int) (s : Bool) (e n k o : Int),
    (∀ w, WorldG A w → TextG A w → Calls Tryd.prog 21 #[.string t] w (RdR A (refV z s e n) k o w)) ∧
    (∀ w, Calls Tryd.prog 22 #[.string t] w (ExR (.tuple #[refV z s e n, faultW k o]) w)) := by
  obtain ⟨N1, a1, a2, a3⟩ := exN (fun j => dig t (0 + j)) 2
  obtain ⟨N2, b1, b2, b3⟩ := exN (fun j => dig t (4 + j)) 6
  obtain ⟨N3, c1, c2, c3⟩ := exN (fun j => dig t (11 + j)) 7
  have P1 := part_dig t 0 2 N1 (fun j _ _ => by omega) a1 a2 a3
  have P2 := part_one t 2
  have P3 := part_one t 3
  have P4 := part_dig t 4 6 N2 (fun j _ _ => by omega) b1 b2 b3
  have P5 := part_one t 10
  have P6 := part_dig t 11 7 N3 (fun j _ _ => by omega) c1 c2 c3
  have HZ := Lib.hid (digitsAt_c t 0 2 N1 (by omega) (by omega) a1 a2 a3)
  have HE := Lib.hid (digitsAt_c t 4 6 N2 (by omega) (by omega) b1 b2 b3)
  have HN := Lib.hid (digitsAt_c t 11 7 N3 (by omega) (by omega) c1 c2 c3)
  have HH := Lib.hid (byteAt_c t 2 78 83 (okI t 2) Iff.rfl)
  have HS := Lib.hid (byteAt_c t 3 32 32 (okI t 3) (by unfold okI; rw [if_neg (by decide), if_pos (by decide), or_self]))
  have HQ := Lib.hid (byteAt_c t 10 32 32 (okI t 10) (by unfold okI; rw [if_neg (by decide), if_pos (by decide), or_self]))
  have BAD := six_bad P1 P2 P3 P4 P5 P6
  have ALL := (six_next P1 P2 P3 P4 P5 P6).2.2.2.2.2
  obtain ⟨s, hs⟩ : ∃ s : Bool, s = ((byt t 2 : Int) == 83) := ⟨_, rfl⟩
  have hs2 : s = decide (byt t 2 = 83) := by rw [hs]; by_cases h : byt t 2 = 83 <;> simp [h] <;> omega
  have G1 : PartSp t 0 2 (if N1 = 2 then -1 else ((0 + N1 : Nat) : Int)) → (if N1 = 2 then (-1 : Int) else ((0 + N1 : Nat) : Int)) < 0 → N1 = 2 := fun _ h => by
    by_cases h' : N1 = 2
    · exact h'
    · rw [if_neg h'] at h; omega
  have G2 : (if N2 = 6 then (-1 : Int) else ((4 + N2 : Nat) : Int)) < 0 → N2 = 6 := fun h => by
    by_cases h' : N2 = 6
    · exact h'
    · rw [if_neg h'] at h; omega
  have G3 : (if N3 = 7 then (-1 : Int) else ((11 + N3 : Nat) : Int)) < 0 → N3 = 7 := fun h => by
    by_cases h' : N3 = 7
    · exact h'
    · rw [if_neg h'] at h; omega
  replace G1 := G1 P1
  obtain ⟨V1, hV1⟩ : ∃ V : Int, V = if N1 = 2 then (num t 0 2 : Int) else 0 := ⟨_, rfl⟩
  obtain ⟨V2, hV2⟩ : ∃ V : Int, V = if N2 = 6 then (num t 4 6 : Int) else 0 := ⟨_, rfl⟩
  obtain ⟨V3, hV3⟩ : ∃ V : Int, V = if N3 = 7 then (num t 11 7 : Int) else 0 := ⟨_, rfl⟩
  rw [← hV1] at HZ
  rw [← hV2] at HE
  rw [← hV3] at HN
  have HK := Lib.hid (refError_c V1 s V2 V3 (OkRef V1 V2 V3) Iff.rfl)
  generalize (if N1 = 2 then (-1 : Int) else ((0 + N1 : Nat) : Int)) = A1 at *
  generalize (if N2 = 6 then (-1 : Int) else ((4 + N2 : Nat) : Int)) = A4 at *
  generalize (if N3 = 7 then (-1 : Int) else ((11 + N3 : Nat) : Int)) = A6 at *
  have W := refOf_walk t V1 A1 (if okI t 2 then -1 else ((2 : Nat) : Int)) (if okI t 3 then -1 else ((3 : Nat) : Int)) V2 A4 (if okI t 10 then -1 else ((10 : Nat) : Int)) V3 A6 HZ HH HS HE HQ HN s (if OkRef V1 V2 V3 then 0 else 4) HK
  generalize (if okI t 2 then (-1 : Int) else ((2 : Nat) : Int)) = A2 at *
  generalize (if okI t 3 then (-1 : Int) else ((3 : Nat) : Int)) = A3 at *
  generalize (if okI t 10 then (-1 : Int) else ((10 : Nat) : Int)) = A5 at *
  clear HZ HH HS HE HQ HN HK P1 P2 P3 P4 P5 P6 a2 a3 b2 b3 c2 c3
  have ALL2 : (∀ j < 6, six A1 A2 A3 A4 A5 A6 j < 0) → (∀ j < 18, okI t j) ∧ V1 = num t 0 2 ∧ V2 = num t 4 6 ∧ V3 = num t 11 7 := fun h => by
    have e1 := h 0 (by omega)
    have e2 := h 1 (by omega)
    have e3 := h 2 (by omega)
    have e4 := h 3 (by omega)
    have e5 := h 4 (by omega)
    have e6 := h 5 (by omega)
    exact ⟨ALL e1 e2 e3 e4 e5 e6, by rw [hV1, if_pos (G1 e1)], by rw [hV2, if_pos (G2 e4)], by rw [hV3, if_pos (G3 e6)]⟩
  clear ALL G1 G2 G3 hV1 hV2 hV3
  obtain ⟨N, n1, n2, n3⟩ := exN (okI t) 18
  rcases Nat.lt_or_ge N 18 with hN | hN
  · have nb := n3 hN
    have hsz := okI_size n2
    refine ⟨0, false, 0, 0, 1, N, fun w hW hT => readRef_walk t w hW hT _ _ _ ?_ ?_ ?_, fun w => W _ ?_ ?_ ?_ w⟩
    · refine Lib.hid (fun M hM h1 h2 => ⟨rfl, rfl, ?_⟩)
      obtain rfl := same_bad h1 h2 n2 nb
      omega
    · exact Lib.hid (fun h => absurd (h N hN) nb)
    · exact Lib.hid (fun h => absurd (h N hN) nb)
    · refine Lib.hid (fun p hp h1 h2 => ?_)
      obtain ⟨b, k1, k2, k3, k4⟩ := BAD p hp h1 h2
      obtain rfl := same_bad k3 k4 n2 nb
      rw [k1]
      exact ⟨by omega, rfl⟩
    · exact Lib.hid (fun h => absurd ((ALL2 h).1 N hN) nb)
    · exact Lib.hid (fun h => absurd ((ALL2 h).1 N hN) nb)
  · obtain rfl : N = 18 := by omega
    clear n1 n3 hN
    by_cases hl : 18 < t.size
    · refine ⟨0, false, 0, 0, 1, 18, fun w hW hT => readRef_walk t w hW hT _ _ _ ?_ ?_ ?_, fun w => W _ ?_ ?_ ?_ w⟩
      · exact Lib.hid (fun M hM _ h2 => absurd (n2 M hM) h2)
      · exact Lib.hid (fun _ _ => ⟨rfl, rfl, rfl⟩)
      · exact Lib.hid (fun _ h => absurd hl h)
      · refine Lib.hid (fun p hp h1 h2 => ?_)
        obtain ⟨b, k1, k2, k3, k4⟩ := BAD p hp h1 h2
        exact absurd (n2 b k2) k4
      · exact Lib.hid (fun _ _ => rfl)
      · exact Lib.hid (fun _ h => absurd hl h)
    · by_cases hok : OkRef (num t 0 2) (num t 4 6) (num t 11 7)
      · refine ⟨num t 0 2, decide (byt t 2 = 83), num t 4 6, num t 11 7, 0, -1, fun w hW hT => readRef_walk t w hW hT _ _ _ ?_ ?_ ?_, fun w => W _ ?_ ?_ ?_ w⟩
        · exact Lib.hid (fun M hM _ h2 => absurd (n2 M hM) h2)
        · exact Lib.hid (fun _ h => absurd h hl)
        · exact Lib.hid (fun _ _ => ⟨fun h => absurd hok h, fun _ => ⟨rfl, rfl, rfl⟩⟩)
        · refine Lib.hid (fun p hp h1 h2 => ?_)
          obtain ⟨b, k1, k2, k3, k4⟩ := BAD p hp h1 h2
          exact absurd (n2 b k2) k4
        · exact Lib.hid (fun _ h => absurd h hl)
        · refine Lib.hid (fun h _ => ⟨(n2 2 (by omega)).1, hs, fun hK => ?_, fun _ => ?_⟩)
          · obtain ⟨_, e1, e2, e3⟩ := ALL2 h
            rw [e1, e2, e3, if_pos hok] at hK
            omega
          · obtain ⟨_, e1, e2, e3⟩ := ALL2 h
            rw [e1, e2, e3, hs2]
      · refine ⟨0, false, 0, 0, 4, 0, fun w hW hT => readRef_walk t w hW hT _ _ _ ?_ ?_ ?_, fun w => W _ ?_ ?_ ?_ w⟩
        · exact Lib.hid (fun M hM _ h2 => absurd (n2 M hM) h2)
        · exact Lib.hid (fun _ h => absurd h hl)
        · exact Lib.hid (fun _ _ => ⟨fun _ => ⟨rfl, rfl, rfl⟩, fun h => absurd h hok⟩)
        · refine Lib.hid (fun p hp h1 h2 => ?_)
          obtain ⟨b, k1, k2, k3, k4⟩ := BAD p hp h1 h2
          exact absurd (n2 b k2) k4
        · exact Lib.hid (fun _ h => absurd h hl)
        · refine Lib.hid (fun h _ => ⟨(n2 2 (by omega)).1, hs, fun _ => rfl, fun hK => ?_⟩)
          obtain ⟨_, e1, e2, e3⟩ := ALL2 h
          rw [e1, e2, e3, if_neg hok] at hK
          omega
theorem read_print {A : Nat → Addr} (z : Nat) (s : Bool) (e n : Nat) (hz : 1 ≤ z) (hz' : z ≤ 60) (he : e ≤ 999999) (hn : n ≤ 9999999) (w : World) (hW : WorldG A w) (hT : TextG A w) :
    Calls Tryd.prog 21 #[.string ⟨(textS z s e n).toArray⟩] w (ExR (.tuple #[refV z s e n, .nilIface]) w) := by
  have H := readRef_walk ⟨(textS z s e n).toArray⟩ w hW hT (refV z s e n) 0 (-1) ?_ ?_ ?_
  · refine H.mono ?_
    rintro e w' ⟨v, rfl, hv, hx⟩
    cases hv
    exact ⟨rfl, hx⟩
  · exact Lib.hid (fun M hM _ h2 => absurd (text_okI z s e n M hM) h2)
  · exact Lib.hid (fun _ h => by rw [text_size] at h; omega)
  · refine Lib.hid (fun _ _ => ?_)
    rw [text_zone z s e n (by omega), text_east z s e n (by omega), text_north z s e n (by omega), text_hem]
    refine ⟨fun h => absurd ⟨by omega, by omega, by omega, by omega, by omega, by omega⟩ h, fun _ => ⟨?_, rfl, rfl⟩⟩
    cases s <;> rfl
end Go.Proofs.YteebbcdbkkliaaaDoor
