/- Walks: which papers are valid, and which places on them. -/
import Derived.Test.YtmmifmlkhmdgaaaGreatDoorZG
namespace Go.Proofs.YtmmifmlkhmdgaaaGreatDoor
open Go.RowKit Go.Fp Go.Rel
set_option maxRecDepth 20000

abbrev sMer : ByteArray := { data := #[109, 101, 114, 99, 97, 116, 111, 114] }
abbrev sEqu : ByteArray := { data := #[101, 113, 117, 97, 108] }
abbrev sPol : ByteArray := { data := #[112, 111, 108, 97, 114] }
/-- the kinds of paper -/
inductive KindIs : ByteArray → Nat → Prop
  | mer : KindIs sMer 0
  | equ : KindIs sEqu 1
  | pol : KindIs sPol 2
  | not {s : ByteArray} (h1 : (s.toList == [109, 101, 114, 99, 97, 116, 111, 114]) = false) (h2 : (s.toList == [101, 113, 117, 97, 108]) = false) (h3 : (s.toList == [112, 111, 108, 97, 114]) = false) : KindIs s 3
theorem of_list' {s t : ByteArray} (h : (s.toList == t.toList) = true) : s = t := by
  have h' := eq_of_beq h
  rw [ByteArray.toList_eq, ByteArray.toList_eq] at h'
  obtain ⟨⟨x⟩⟩ := s
  obtain ⟨⟨y⟩⟩ := t
  simpa using h'
theorem kind_some (s : ByteArray) : ∃ n, KindIs s n := by
  cases h1 : (s.toList == [109, 101, 114, 99, 97, 116, 111, 114])
  case true => obtain rfl := of_list' (s := s) (t := sMer) (by rw [ByteArray.toList_eq, ByteArray.toList_eq] at *; exact h1); exact ⟨_, .mer⟩
  cases h2 : (s.toList == [101, 113, 117, 97, 108])
  case true => obtain rfl := of_list' (s := s) (t := sEqu) (by rw [ByteArray.toList_eq, ByteArray.toList_eq] at *; exact h2); exact ⟨_, .equ⟩
  cases h3 : (s.toList == [112, 111, 108, 97, 114])
  case true => obtain rfl := of_list' (s := s) (t := sPol) (by rw [ByteArray.toList_eq, ByteArray.toList_eq] at *; exact h3); exact ⟨_, .pol⟩
  exact ⟨_, .not h1 h2 h3⟩
abbrev paperV (a f : Nat) (s : ByteArray) (mid : Int) (sc : Nat) : Value := .agg #[.float .f64 a, .float .f64 f, .string s, .int .i64 mid, .float .f64 sc]
abbrev placeW (lon lat : Int) : Value := .agg #[.int .i64 lon, .int .i64 lat]
/-- the error's number of a paper: g, whether its globe is one; n, its kind -/
def papP (g : Bool) (n : Nat) (sc : Nat) : Int := if g = true then if n = 3 then 5 else if btw sc 4591870180066957722 4621819117588971520 = true then 0 else 3 else 3

/-- the error's number of a place on a paper -/
def chkP (e : Int) (n : Nat) (lat : Int) : Int := if 0 < e then e else if 89000000000 < lat ∨ lat < -89000000000 then 4 else if n = 2 ∧ lat < 0 then 4 else 0
theorem papP_cases (g : Bool) (n sc : Nat) : papP g n sc = 0 ∧ n ≠ 3 ∨ papP g n sc = 3 ∨ papP g n sc = 5 := by
  unfold papP
  split
  · split
    · simp
    · split <;> simp [*]
  · simp

end Go.Proofs.YtmmifmlkhmdgaaaGreatDoor
