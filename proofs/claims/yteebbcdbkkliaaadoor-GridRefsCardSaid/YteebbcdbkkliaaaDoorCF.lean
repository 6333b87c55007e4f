/- Walks: reading a reference's text: the reference's digitsAt and byteAt. -/
import Derived.Test.YteebbcdbkkliaaaDoorCB
import Derived.Test.YteebbcdbkkliaaaDoorCE
namespace Go.Proofs.YteebbcdbkkliaaaDoor
open Go.RowKit Go.Fp Go.Rel Go.Lib
set_option maxRecDepth 20000

/-- the byte at a place of a text -/
def byt (t : ByteArray) (i : Nat) : Nat := (t.data.toList.getD i 0).toNat
theorem byt_lt (t : ByteArray) (i : Nat) : byt t i < 256 := UInt8.toNat_lt _
theorem idx (t : ByteArray) (i : Nat) (h : i < t.size) (w : World) : (Instr.index 9 (.string t) (.int .i64 (i : Int))).run Tryd.prog w = .ok (.int .u8 (byt t i)) w := by
  rw [run_index_string w 9 t .i64 (i : Int) Tryd.underlying9, dif_pos ⟨by omega, by omega⟩]
  have e : t.data[i]? = some t[i] := Array.getElem?_eq_getElem (by exact h)
  simp [byt, List.getD_eq_getElem?_getD, e]
def dig (t : ByteArray) (i : Nat) : Prop := i < t.size ∧ 48 ≤ byt t i ∧ byt t i ≤ 57
/-- the number of so many digits -/
def num (t : ByteArray) (f : Nat) : Nat → Nat
  | 0 => 0
  | k + 1 => num t f k * 10 + (byt t (f + k) - 48)
theorem num_lt (t : ByteArray) (f : Nat) : ∀ k, (∀ j < k, dig t (f + j)) → num t f k < 10 ^ k
  | 0, _ => by simp [num]
  | k + 1, h => by
    have h1 := num_lt t f k (fun j hj => h j (by omega))
    have h2 := h k (by omega)
    unfold dig at h2
    simp only [num, Nat.pow_succ]
    omega

set_option maxHeartbeats 4000000 in
theorem digitsAt_c (t : ByteArray) (f m N : Nat) (hf : f + m ≤ 100) (hm : m ≤ 9) (hN : N ≤ m) (hd : ∀ j < N, dig t (f + j)) (hx : N < m → ¬ dig t (f + N)) (w : World) :
    Calls Tryd.prog 44 #[.string t, .int .i64 f, .int .i64 m] w (ExR (.tuple #[.int .i64 (if N = m then (num t f m : Int) else 0), .int .i64 (if N = m then -1 else ((f + N : Nat) : Int))]) w) := by
  have HD := Lib.hid hd
  have HX := Lib.hid hx
  have HB := Lib.hid (num_lt t f)
  clear hd hx
  obtain ⟨R1, h1⟩ : ∃ R : Int, R = if N = m then (num t f m : Int) else 0 := ⟨_, rfl⟩
  obtain ⟨R2, h2⟩ : ∃ R : Int, R = if N = m then -1 else ((f + N : Nat) : Int) := ⟨_, rfl⟩
  rw [← h1, ← h2]
  have H1 := Lib.hid h1
  have H2 := Lib.hid h2
  clear h1 h2
  go_enter Tryd.func44, Tryd.ntmps44
  go_wp2_with fail
  go_loopw [8, 9] (fun vv iv wr => ∃ (k : Nat), vv = .int .i64 (num t f k : Nat) ∧ iv = .int .i64 ((f + k : Nat) : Int) ∧ k ≤ N ∧ Ext w wr) (fun vv iv _ => f + m - (RowKit.intOf iv).toNat)
  case atStart => exact ⟨0, rfl, rfl, by omega, Ext.refl _⟩
  case round =>
    obtain ⟨k, rfl, rfl, hk, hw⟩ := hrel
    obtain ⟨i, hi⟩ : ∃ i : Nat, i = f + k := ⟨_, rfl⟩
    rw [← hi]
    rcases Nat.lt_or_ge k N with hlt | hge
    · have d := HD.out k hlt
      have hn := HB.out k (fun j hj => HD.out j (by omega))
      have hn9 : num t f k < 1000000000 := Nat.lt_of_lt_of_le hn (Nat.le_trans (Nat.pow_le_pow_right (by decide) (show k ≤ 9 by omega)) (by decide))
      rw [← hi] at d
      obtain ⟨d1, d2, d3⟩ := d
      obtain ⟨v, hv⟩ : ∃ v, v = num t f k := ⟨_, rfl⟩
      have IX := idx t i d1
      obtain ⟨b, hb⟩ : ∃ b, b = byt t i := ⟨_, rfl⟩
      rw [← hb] at IX d2 d3
      rw [← hv] at hn9 ⊢
      have HV := Lib.hid hv
      have HBb := Lib.hid hb
      have HI := Lib.hid hi
      have e1 : (i : Int) < (f : Int) + (m : Int) := by omega
      have e2 : (i : Int) < (t.size : Int) := by omega
      have e3 : (48 : Int) ≤ (b : Int) := by omega
      have e4 : (b : Int) ≤ 57 := by omega
      have W1 : IntKind.u8.wrap ((b : Int) - 48) = (b : Int) - 48 := IntWalk.u8_in _ ⟨by omega, by omega⟩
      clear hn hv hb hi d1
      go_wp2_with fail
      go_roundw
      case rel =>
        refine ⟨k + 1, ?_, ?_, by omega, hw⟩
        · rw [num, ← HV.out, ← HI.out, ← HBb.out]
          congr 1; omega
        · rw [← Nat.add_assoc, ← HI.out]
          first | rfl | (congr 1; omega)
      all_goals (simp [RowKit.intOf]; omega)
    · obtain rfl : k = N := by omega
      by_cases hNm : k = m
      · subst hNm
        have r1 := H1.out
        have r2 := H2.out
        rw [if_pos rfl] at r1 r2
        subst r2
        subst r1
        clear H1 H2
        obtain ⟨v, hv⟩ : ∃ v, v = num t f k := ⟨_, rfl⟩
        rw [← hv]
        have e1 : ¬ (i : Int) < (f : Int) + (k : Int) := by omega
        go_wp2_with fail
        go_ret2
        exact ⟨rfl, hw⟩
      · have r1 := H1.out
        have r2 := H2.out
        have d := HX.out (by omega)
        rw [if_neg hNm] at r1 r2
        rw [← hi] at d r2
        subst r2
        subst r1
        clear H1 H2
        have e1 : (i : Int) < (f : Int) + (m : Int) := by omega
        obtain ⟨v, hv⟩ : ∃ v, v = num t f k := ⟨_, rfl⟩
        rw [← hv]
        clear hv
        rcases Nat.lt_or_ge i t.size with hs | hs
        · have IX := idx t i hs
          have e2 : (i : Int) < (t.size : Int) := by omega
          have d' : byt t i < 48 ∨ 57 < byt t i := by
            unfold dig at d
            omega
          generalize byt t i = b at IX d'
          clear d hi
          rcases d' with d' | d'
          · have e3 : (b : Int) < 48 := by omega
            go_wp2_with fail
            go_ret2
            exact ⟨rfl, hw⟩
          · have e3 : (57 : Int) < (b : Int) := by omega
            have e4 : ¬ (b : Int) < 48 := by omega
            go_wp2_with fail
            go_ret2
            exact ⟨rfl, hw⟩
        · have e2 : ¬ (i : Int) < (t.size : Int) := by omega
          clear d hi
          go_wp2_with fail
          go_ret2
          exact ⟨rfl, hw⟩
set_option maxHeartbeats 4000000 in
theorem byteAt_no (t : ByteArray) (i : Nat) (a b : Nat) (h : ¬ (i < t.size ∧ (byt t i = a ∨ byt t i = b))) (w : World) :
    Calls Tryd.prog 45 #[.string t, .int .i64 i, .int .u8 a, .int .u8 b] w (ExR (.int .i64 i) w) := by
  rcases Nat.lt_or_ge i t.size with hs | hs
  · have IX := idx t i hs
    have e2 : (i : Int) < (t.size : Int) := by omega
    have d : ¬ (byt t i = a) ∧ ¬ (byt t i = b) := ⟨fun e => h ⟨hs, .inl e⟩, fun e => h ⟨hs, .inr e⟩⟩
    generalize byt t i = c at IX d
    obtain ⟨d1, d2⟩ := d
    have e3 : ((c : Int) == (a : Int)) = false := beq_eq_false_iff_ne.2 (by omega)
    have e4 : ((c : Int) == (b : Int)) = false := beq_eq_false_iff_ne.2 (by omega)
    clear h
    go_enter Tryd.func45, Tryd.ntmps45
    go_wp2_with fail
    go_ret
    exact ⟨rfl, Ext.refl _⟩
  · have e2 : ¬ (i : Int) < (t.size : Int) := by omega
    clear h
    go_enter Tryd.func45, Tryd.ntmps45
    go_wp2_with fail
    go_ret
    exact ⟨rfl, Ext.refl _⟩
set_option maxHeartbeats 4000000 in
theorem byteAt_yes (t : ByteArray) (i : Nat) (a b : Nat) (hs : i < t.size) (h : byt t i = a ∨ byt t i = b) (w : World) :
    Calls Tryd.prog 45 #[.string t, .int .i64 i, .int .u8 a, .int .u8 b] w (ExR (.int .i64 (-1)) w) := by
  have IX := idx t i hs
  have e2 : (i : Int) < (t.size : Int) := by omega
  generalize byt t i = c at IX h
  by_cases e : c = a
  · subst e
    clear h
    go_enter Tryd.func45, Tryd.ntmps45
    go_wp2_with fail
    go_ret
    exact ⟨rfl, Ext.refl _⟩
  · have e3 : ((c : Int) == (a : Int)) = false := beq_eq_false_iff_ne.2 (by omega)
    obtain rfl : c = b := by omega
    clear h
    go_enter Tryd.func45, Tryd.ntmps45
    go_wp2_with fail
    go_ret
    exact ⟨rfl, Ext.refl _⟩
end Go.Proofs.YteebbcdbkkliaaaDoor
