/- Walks: which papers are valid, and which places on them. -/
import Derived.Test.YtopedblojfnlnaaGreatDoorZG
namespace Go.Proofs.YtopedblojfnlnaaGreatDoor
open Go.RowKit Go.Fp Go.Rel
set_option maxRecDepth 20000

abbrev sMer : ByteArray := { data := #[109, 101, 114, 99, 97, 116, 111, 114] }
abbrev sEqu : ByteArray := { data := #[101, 113, 117, 97, 108] }
abbrev sPol : ByteArray := { data := #[112, 111, 108, 97, 114] }
/-- the kinds of paper -/
inductive KindIs : ByteArray → Nat → Prop
  | mer : KindIs sMer 0
  | equ : KindIs sEqu 1
  | pol : KindIs sPol 2
  | not {s : ByteArray} (h1 : (s.toList == [109, 101, 114, 99, 97, 116, 111, 114]) = false) (h2 : (s.toList == [101, 113, 117, 97, 108]) = false) (h3 : (s.toList == [112, 111, 108, 97, 114]) = false) : KindIs s 3
theorem of_list' {s t : ByteArray} (h : (s.toList == t.toList) = true) : s = t := by
  have h' := eq_of_beq h
  rw [ByteArray.toList_eq, ByteArray.toList_eq] at h'
  obtain ⟨⟨x⟩⟩ := s
  obtain ⟨⟨y⟩⟩ := t
  simpa using h'
theorem kind_some (s : ByteArray) : ∃ n, KindIs s n := by
  cases h1 : (s.toList == [109, 101, 114, 99, 97, 116, 111, 114])
  case true => obtain rfl := of_list' (s := s) (t := sMer) (by rw [ByteArray.toList_eq, ByteArray.toList_eq] at *; exact h1); exact ⟨_, .mer⟩
  cases h2 : (s.toList == [101, 113, 117, 97, 108])
  case true => obtain rfl := of_list' (s := s) (t := sEqu) (by rw [ByteArray.toList_eq, ByteArray.toList_eq] at *; exact h2); exact ⟨_, .equ⟩
  cases h3 : (s.toList == [112, 111, 108, 97, 114])
  case true => obtain rfl := of_list' (s := s) (t := sPol) (by rw [ByteArray.toList_eq, ByteArray.toList_eq] at *; exact h3); exact ⟨_, .pol⟩
  exact ⟨_, .not h1 h2 h3⟩
abbrev paperV (a f : Nat) (s : ByteArray) (mid : Int) (sc : Nat) : Value := .agg #[.float .f64 a, .float .f64 f, .string s, .int .i64 mid, .float .f64 sc]
abbrev placeW (lon lat : Int) : Value := .agg #[.int .i64 lon, .int .i64 lat]
/-- the error's number of a paper: g, whether its globe is one; n, its kind -/
def papP (g : Bool) (n : Nat) (sc : Nat) : Int := if g = true then if n = 3 then 5 else if btw sc 4591870180066957722 4621819117588971520 = true then 0 else 3 else 3

set_option maxHeartbeats 4000000 in
theorem pvalid_c {A : Nat → Addr} {s : ByteArray} {n : Nat} (h : KindIs s n) (a f : Nat) (mid : Int) (sc : Nat) (w : World) (h8 : World8 A w) :
    Calls Tryz.prog 61 #[paperV a f s mid sc] w fun e w' => ∃ v, e = .returned v ∧ ErrOf A (papP (okG a f) n sc) v ∧ Ext w w' := by
  have HV0 : ∀ w, World8 A w → Calls Tryz.prog 55 #[globeV a f] w (ExR (if okG a f then .nilIface else errV (A 1)) w) := fun w h => valid_c a f w h
  generalize okG a f = g at *
  cases g
  · simp only [Bool.false_eq_true, if_false] at HV0
    have HV := Lib.hid HV0
    clear HV0
    go_enter Tryz.func61, Tryz.ntmps61
    go_wp2_with (first
      | (go_at_call 55; go_must (refine (HV.out _ (h8.ext ((Ext.refl w).alloc _))).mono ?_; rintro e w1 ⟨rfl, hx⟩; obtain ⟨hb1, hw⟩ := ext1 hx; have c1 := hb1.cell; clear hx)))
    go_ret
    exact ⟨_, rfl, .shape, hw⟩
  · simp only [if_true] at HV0
    have HV := Lib.hid HV0
    clear HV0
    cases h
    case not =>
      go_enter Tryz.func61, Tryz.ntmps61
      go_wp2_with (first
        | (go_at_call 55; go_must (refine (HV.out _ (h8.ext ((Ext.refl w).alloc _))).mono ?_; rintro e w1 ⟨rfl, hx⟩; obtain ⟨hb1, hw⟩ := ext1 hx; have c1 := hb1.cell; have kg := (h8.ext hw).errs.cell 5 (by decide); clear hx)))
      go_ret
      exact ⟨_, rfl, .name, hw⟩
    all_goals
      have hB : Hid (∀ k, k ≠ 3 → papP true k sc = if btw sc 4591870180066957722 4621819117588971520 = true then 0 else 3) := Lib.hid (fun k hk => by unfold papP; rw [if_pos rfl, if_neg hk])
      go_enter Tryz.func61, Tryz.ntmps61
      go_wp2_with (first
        | (go_at_call 55; go_must (refine (HV.out _ (h8.ext ((Ext.refl w).alloc _))).mono ?_; rintro e w1 ⟨rfl, hx⟩; obtain ⟨hb1, hw⟩ := ext1 hx; have c1 := hb1.cell; have kg := (h8.ext hw).errs.cell 1 (by decide); clear hx)))
      all_goals (first | go_ret | (exfalso; simp_all; done))
      all_goals
        refine ⟨_, rfl, ?_, hw⟩
        rw [hB.out _ (by decide)]
        have hD : FloatKind.f64.format = D := rfl
        simp only [hD] at *
        first
          | (rw [if_pos (by simp_all [btw, fge, fle])]; exact .nil)
          | (rw [if_neg (by simp_all [btw, fge, fle]; rename_i p q; rcases q with ⟨q1, q2⟩ | q <;> simp_all)]; exact .shape)
          | (rw [if_neg (by simp_all [btw, fge, fle])]; exact .shape)

set_option maxHeartbeats 4000000 in
theorem paperError_c {s : ByteArray} {n : Nat} (h : KindIs s n) (a f : Nat) (mid : Int) (sc : Nat) (w : World) :
    Calls Tryz.prog 67 #[paperV a f s mid sc] w (ExR (.int .i64 (papP (okG a f) n sc)) w) := by
  have HG0 : ∀ w, Calls Tryz.prog 24 #[globeV a f] w (ExR (.int .i64 (if okG a f then 0 else 3)) w) := fun w => globeError_c a f w
  have hB := Lib.hid (between_c sc 4591870180066957722 4621819117588971520)
  unfold papP
  generalize okG a f = g at *
  generalize btw sc 4591870180066957722 4621819117588971520 = b at *
  cases g
  · simp only [Bool.false_eq_true, if_false] at HG0
    have HG := Lib.hid HG0
    clear HG0 hB
    go_enter Tryz.func67, Tryz.ntmps67
    go_wp2_with (first
      | (go_at_call 24; go_must (refine (HG.out _).mono ?_; rintro e w1 ⟨rfl, hx⟩; obtain ⟨hb1, hw⟩ := ext1 hx; have c1 := hb1.cell; clear hx)))
    go_ret
    exact ⟨rfl, hw⟩
  · simp only [if_true] at HG0
    have HG := Lib.hid HG0
    clear HG0
    cases h
    case not =>
      clear hB
      go_enter Tryz.func67, Tryz.ntmps67
      go_wp2_with (first
        | (go_at_call 24; go_must (refine (HG.out _).mono ?_; rintro e w1 ⟨rfl, hx⟩; obtain ⟨hb1, hw⟩ := ext1 hx; have c1 := hb1.cell; clear hx)))
      go_ret
      exact ⟨rfl, hw⟩
    all_goals
      cases b
      all_goals
        go_enter Tryz.func67, Tryz.ntmps67
        go_wp2_with (first
          | (go_at_call 24; go_must (refine (HG.out _).mono ?_; rintro e w1 ⟨rfl, hx⟩; obtain ⟨hb1, hw⟩ := ext1 hx; have c1 := hb1.cell; clear hx))
          | (go_at_call 43; go_must (refine (hB.out _).mono ?_; rintro e w2 ⟨rfl, hx⟩; replace hw := hw.trans (bareN hx rfl rfl rfl rfl); clear hx)))
        go_ret
        exact ⟨rfl, hw⟩

/-- the error's number of a place on a paper -/
def chkP (e : Int) (n : Nat) (lat : Int) : Int := if 0 < e then e else if 89000000000 < lat ∨ lat < -89000000000 then 4 else if n = 2 ∧ lat < 0 then 4 else 0
theorem papP_cases (g : Bool) (n sc : Nat) : papP g n sc = 0 ∧ n ≠ 3 ∨ papP g n sc = 3 ∨ papP g n sc = 5 := by
  unfold papP
  split
  · split
    · simp
    · split <;> simp [*]
  · simp

set_option maxHeartbeats 8000000 in
theorem pcheck_c {A : Nat → Addr} {s : ByteArray} {n : Nat} (h : KindIs s n) (a f : Nat) (mid : Int) (sc : Nat) (lon lat : Int) (w : World) (h8 : World8 A w) :
    Calls Tryz.prog 91 #[paperV a f s mid sc, placeW lon lat] w fun e w' => ∃ v, e = .returned v ∧ ErrOf A (chkP (papP (okG a f) n sc) n lat) v ∧ Ext w w' := by
  have hV0 : ∀ w, World8 A w → Calls Tryz.prog 61 #[paperV a f s mid sc] w fun e w' => ∃ v, e = .returned v ∧ ErrOf A (papP (okG a f) n sc) v ∧ Ext w w' := fun w h8 => pvalid_c h a f mid sc w h8
  have hp := papP_cases (okG a f) n sc
  generalize papP (okG a f) n sc = e0 at *
  have HV := Lib.hid hV0
  clear hV0
  rcases hp with ⟨rfl, h3⟩ | hp
  · have HC : Hid (chkP 0 n lat = if 89000000000 < lat ∨ lat < -89000000000 then 4 else if n = 2 ∧ lat < 0 then 4 else 0) := rfl
    cases h
    case not => exact absurd rfl h3
    all_goals
      clear h3
      go_enter Tryz.func91, Tryz.ntmps91
      go_wp2_with (first
        | (go_at_call 61; go_must (refine (HV.out _ (h8.ext (((Ext.refl w).alloc _).alloc _))).mono ?_; rintro e w1 ⟨v, rfl, hv, hx⟩; cases hv; obtain ⟨hb1, hb2, hw⟩ := ext2 hx; have c1 := hb1.cell; have c2 := hb2.cell; have kg := (h8.ext hw).errs.cell 0 (by decide); clear hx)))
      all_goals (first | go_ret | (exfalso; omega))
      all_goals
        first
          | (refine ⟨errV (A 0), rfl, ?_, hw⟩; rw [HC.out, if_pos (by omega)]; exact .range)
          | (refine ⟨errV (A 0), rfl, ?_, hw⟩; rw [HC.out, if_neg (by omega), if_pos (by omega)]; exact .range)
          | (refine ⟨.nilIface, rfl, ?_, hw⟩; rw [HC.out, if_neg (by omega), if_neg (by omega)]; exact .nil)
          | (have h5 : lat < 0 := by omega
             have h6 : ¬ (89000000000 < lat ∨ lat < -89000000000) := by omega
             refine ⟨errV (A 0), rfl, ?_, hw⟩
             rw [HC.out, if_neg h6, if_pos (by simpa using h5)]; exact .range)
  · have HC : Hid (chkP e0 n lat = e0) := by unfold chkP; exact if_pos (by omega)
    have hv' : ∀ v, ErrOf A e0 v → v = errV (A 1) ∧ e0 = 3 ∨ v = errV (A 5) ∧ e0 = 5 := by
      intro v hv
      cases hv <;> simp at hp <;> simp
    have HV' := Lib.hid hv'
    clear hv'
    have hV2 : Hid (∀ w, World8 A w → Calls Tryz.prog 61 #[paperV a f s mid sc] w fun e w' => ∃ p, e = .returned (errV p) ∧ ErrOf A e0 (errV p) ∧ Ext w w') := Lib.hid (fun w h8 => (HV.out w h8).mono (by
      rintro e w' ⟨v, rfl, hv, hx⟩
      rcases HV'.out v hv with ⟨rfl, _⟩ | ⟨rfl, _⟩
      · exact ⟨_, rfl, hv, hx⟩
      · exact ⟨_, rfl, hv, hx⟩))
    clear HV HV' hp
    go_enter Tryz.func91, Tryz.ntmps91
    go_wp2_with (first
      | (go_at_call 61; go_must (refine (hV2.out _ (h8.ext (((Ext.refl w).alloc _).alloc _))).mono ?_; rintro e w1 ⟨p, rfl, hv, hx⟩; obtain ⟨hb1, hb2, hw⟩ := ext2 hx; clear hx)))
    go_ret
    exact ⟨_, rfl, by rw [HC.out]; exact hv, hw⟩

end Go.Proofs.YtopedblojfnlnaaGreatDoor
