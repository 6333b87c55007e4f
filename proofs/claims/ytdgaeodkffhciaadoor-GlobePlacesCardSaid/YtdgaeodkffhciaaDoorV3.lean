/- Walks: the globes that are known by name; a globe turned into the program's. -/
import Derived.Test.YtdgaeodkffhciaaDoorV1
namespace Go.Proofs.YtdgaeodkffhciaaDoor
open Go.RowKit Go.Fp Go.Rel
set_option maxRecDepth 20000

abbrev sWgs : ByteArray := { data := #[119, 103, 115, 56, 52] }
abbrev sGrs : ByteArray := { data := #[103, 114, 115, 56, 48] }
abbrev sBes : ByteArray := { data := #[98, 101, 115, 115, 101, 108] }
abbrev sAir : ByteArray := { data := #[97, 105, 114, 121] }
abbrev sBal : ByteArray := { data := #[98, 97, 108, 108] }

/-- what a name stands for: half the axis, the flattening, the error's number -/
inductive KnownG : ByteArray → Nat → Nat → Int → Prop
  | wgs : KnownG sWgs 4708606483430899712 4569877477558837545 0
  | grs : KnownG sGrs 4708606483430899712 4569877477596733701 0
  | bes : KnownG sBes 4708605689028379935 4569854332699817238 0
  | air : KnownG sAir 4708605867528294498 4569849899622835569 0
  | bal : KnownG sBal 4708598820135501824 0 0
  | not {s : ByteArray} (h1 : (s.toList == [119, 103, 115, 56, 52]) = false) (h2 : (s.toList == [103, 114, 115, 56, 48]) = false) (h3 : (s.toList == [98, 101, 115, 115, 101, 108]) = false) (h4 : (s.toList == [97, 105, 114, 121]) = false) (h5 : (s.toList == [98, 97, 108, 108]) = false) : KnownG s 0 0 5
theorem of_list {s t : ByteArray} (h : (s.toList == t.toList) = true) : s = t := by
  have h' := eq_of_beq h
  rw [ByteArray.toList_eq, ByteArray.toList_eq] at h'
  obtain ⟨⟨x⟩⟩ := s
  obtain ⟨⟨y⟩⟩ := t
  simpa using h'
theorem known_some (s : ByteArray) : ∃ a f k, KnownG s a f k := by
  cases h1 : (s.toList == [119, 103, 115, 56, 52])
  case true => obtain rfl := of_list (s := s) (t := sWgs) (by rw [ByteArray.toList_eq, ByteArray.toList_eq] at *; exact h1); exact ⟨_, _, _, .wgs⟩
  cases h2 : (s.toList == [103, 114, 115, 56, 48])
  case true => obtain rfl := of_list (s := s) (t := sGrs) (by rw [ByteArray.toList_eq, ByteArray.toList_eq] at *; exact h2); exact ⟨_, _, _, .grs⟩
  cases h3 : (s.toList == [98, 101, 115, 115, 101, 108])
  case true => obtain rfl := of_list (s := s) (t := sBes) (by rw [ByteArray.toList_eq, ByteArray.toList_eq] at *; exact h3); exact ⟨_, _, _, .bes⟩
  cases h4 : (s.toList == [97, 105, 114, 121])
  case true => obtain rfl := of_list (s := s) (t := sAir) (by rw [ByteArray.toList_eq, ByteArray.toList_eq] at *; exact h4); exact ⟨_, _, _, .air⟩
  cases h5 : (s.toList == [98, 97, 108, 108])
  case true => obtain rfl := of_list (s := s) (t := sBal) (by rw [ByteArray.toList_eq, ByteArray.toList_eq] at *; exact h5); exact ⟨_, _, _, .bal⟩
  exact ⟨_, _, _, .not h1 h2 h3 h4 h5⟩
theorem KnownG.fine {s : ByteArray} {a f : Nat} {k : Int} (h : KnownG s a f k) : isNan a = false ∧ isNan f = false := by
  cases h <;> exact ⟨by decide +kernel, by decide +kernel⟩

theorem known_c {A : Nat → Addr} {s : ByteArray} {a f : Nat} {k : Int} (h : KnownG s a f k) (w : World) (h8 : World8 A w) :
    Calls Tryd.prog 18 #[.string s] w fun e w' => ∃ v, e = .returned (.tuple #[globeV a f, v]) ∧ ErrOf A k v ∧ Ext w w' := by
  have kg : (w.alloc (.cells #[.float .f64 0, .float .f64 0] 51)).cell? ⟨2, 0, none⟩ = some (errV (A 2)) := (h8.ext ((Ext.refl w).alloc _)).errs.cell 2 (by decide)
  have hl := cell_lt (h8.errs.cell 2 (by decide))
  cases h
  case wgs =>
    go_enter Tryd.func18, Tryd.ntmps18
    go_wp2
    exact bodyPost_ret (v := .tuple #[globeV 4708606483430899712 4569877477558837545, .nilIface]) (by simp [results, Tryd.results18, go_sem]) rfl ⟨_, rfl, .nil, by repeat (first | exact Ext.refl _ | refine Ext.drew ?_ | refine Ext.alloc ?_ _ | refine Ext.setCell ?_ (by simp) _)⟩
  case grs =>
    go_enter Tryd.func18, Tryd.ntmps18
    go_wp2
    exact bodyPost_ret (v := .tuple #[globeV 4708606483430899712 4569877477596733701, .nilIface]) (by simp [results, Tryd.results18, go_sem]) rfl ⟨_, rfl, .nil, by repeat (first | exact Ext.refl _ | refine Ext.drew ?_ | refine Ext.alloc ?_ _ | refine Ext.setCell ?_ (by simp) _)⟩
  case bes =>
    go_enter Tryd.func18, Tryd.ntmps18
    go_wp2
    exact bodyPost_ret (v := .tuple #[globeV 4708605689028379935 4569854332699817238, .nilIface]) (by simp [results, Tryd.results18, go_sem]) rfl ⟨_, rfl, .nil, by repeat (first | exact Ext.refl _ | refine Ext.drew ?_ | refine Ext.alloc ?_ _ | refine Ext.setCell ?_ (by simp) _)⟩
  case air =>
    go_enter Tryd.func18, Tryd.ntmps18
    go_wp2
    exact bodyPost_ret (v := .tuple #[globeV 4708605867528294498 4569849899622835569, .nilIface]) (by simp [results, Tryd.results18, go_sem]) rfl ⟨_, rfl, .nil, by repeat (first | exact Ext.refl _ | refine Ext.drew ?_ | refine Ext.alloc ?_ _ | refine Ext.setCell ?_ (by simp) _)⟩
  case bal =>
    go_enter Tryd.func18, Tryd.ntmps18
    go_wp2
    exact bodyPost_ret (v := .tuple #[globeV 4708598820135501824 0, .nilIface]) (by simp [results, Tryd.results18, go_sem]) rfl ⟨_, rfl, .nil, by repeat (first | exact Ext.refl _ | refine Ext.drew ?_ | refine Ext.alloc ?_ _ | refine Ext.setCell ?_ (by simp) _)⟩
  case not =>
    go_enter Tryd.func18, Tryd.ntmps18
    go_wp2
    go_region
    all_goals go_wp2
    all_goals exact bodyPost_ret (v := .tuple #[globeV 0 0, errV (A 2)]) (by simp [results, Tryd.results18, go_sem]) rfl ⟨_, rfl, .name, by repeat (first | exact Ext.refl _ | refine Ext.drew ?_ | refine Ext.alloc ?_ _ | refine Ext.setCell ?_ (by simp) _)⟩

set_option maxHeartbeats 4000000 in
theorem knownOf_c {s : ByteArray} {a f : Nat} {k : Int} (h : KnownG s a f k) (w : World) :
    Calls Tryd.prog 19 #[.string s] w (ExR (.tuple #[globeV a f, .int .i64 k]) w) := by
  cases h
  case wgs =>
    go_enter Tryd.func19, Tryd.ntmps19
    go_wp2
    refine wp_loop_rounds 5 ?_
    rw [rounds_succ]
    go_wp2
    go_region
    all_goals go_wp2
    all_goals exact bodyPost_ret (v := .tuple #[globeV 4708606483430899712 4569877477558837545, .int .i64 0]) (by simp [results, Tryd.results19, go_sem]) rfl ⟨rfl, by repeat (first | exact Ext.refl _ | refine Ext.drew ?_ | refine Ext.alloc ?_ _ | refine Ext.setCell ?_ (by simp) _)⟩
  case grs =>
    go_enter Tryd.func19, Tryd.ntmps19
    go_wp2
    refine wp_loop_rounds 5 ?_
    rw [rounds_succ]
    go_wp2
    rw [rounds_succ]
    go_wp2
    go_region
    all_goals go_wp2
    all_goals exact bodyPost_ret (v := .tuple #[globeV 4708606483430899712 4569877477596733701, .int .i64 0]) (by simp [results, Tryd.results19, go_sem]) rfl ⟨rfl, by repeat (first | exact Ext.refl _ | refine Ext.drew ?_ | refine Ext.alloc ?_ _ | refine Ext.setCell ?_ (by simp) _)⟩
  case bes =>
    go_enter Tryd.func19, Tryd.ntmps19
    go_wp2
    refine wp_loop_rounds 5 ?_
    rw [rounds_succ]
    go_wp2
    rw [rounds_succ]
    go_wp2
    rw [rounds_succ]
    go_wp2
    go_region
    all_goals go_wp2
    all_goals exact bodyPost_ret (v := .tuple #[globeV 4708605689028379935 4569854332699817238, .int .i64 0]) (by simp [results, Tryd.results19, go_sem]) rfl ⟨rfl, by repeat (first | exact Ext.refl _ | refine Ext.drew ?_ | refine Ext.alloc ?_ _ | refine Ext.setCell ?_ (by simp) _)⟩
  case air =>
    go_enter Tryd.func19, Tryd.ntmps19
    go_wp2
    refine wp_loop_rounds 5 ?_
    rw [rounds_succ]
    go_wp2
    rw [rounds_succ]
    go_wp2
    rw [rounds_succ]
    go_wp2
    rw [rounds_succ]
    go_wp2
    go_region
    all_goals go_wp2
    all_goals exact bodyPost_ret (v := .tuple #[globeV 4708605867528294498 4569849899622835569, .int .i64 0]) (by simp [results, Tryd.results19, go_sem]) rfl ⟨rfl, by repeat (first | exact Ext.refl _ | refine Ext.drew ?_ | refine Ext.alloc ?_ _ | refine Ext.setCell ?_ (by simp) _)⟩
  case bal =>
    go_enter Tryd.func19, Tryd.ntmps19
    go_wp2
    refine wp_loop_rounds 5 ?_
    rw [rounds_succ]
    go_wp2
    rw [rounds_succ]
    go_wp2
    rw [rounds_succ]
    go_wp2
    rw [rounds_succ]
    go_wp2
    rw [rounds_succ]
    go_wp2
    all_goals exact bodyPost_ret (v := .tuple #[globeV 4708598820135501824 0, .int .i64 0]) (by simp [results, Tryd.results19, go_sem]) rfl ⟨rfl, by repeat (first | exact Ext.refl _ | refine Ext.drew ?_ | refine Ext.alloc ?_ _ | refine Ext.setCell ?_ (by simp) _)⟩
  case not h1 h2 h3 h4 h5 =>
    have r1 : ([119, 103, 115, 56, 52] == s.toList) = false := by rw [BEq.comm]; exact h1
    have r2 : ([103, 114, 115, 56, 48] == s.toList) = false := by rw [BEq.comm]; exact h2
    have r3 : ([98, 101, 115, 115, 101, 108] == s.toList) = false := by rw [BEq.comm]; exact h3
    have r4 : ([97, 105, 114, 121] == s.toList) = false := by rw [BEq.comm]; exact h4
    go_enter Tryd.func19, Tryd.ntmps19
    go_wp2
    refine wp_loop_rounds 5 ?_
    rw [rounds_succ]
    go_wp2
    rw [rounds_succ]
    go_wp2
    rw [rounds_succ]
    go_wp2
    rw [rounds_succ]
    go_wp2
    rw [rounds_succ]
    go_wp2
    all_goals exact bodyPost_ret (v := .tuple #[globeV 0 0, .int .i64 5]) (by simp [results, Tryd.results19, go_sem]) rfl ⟨rfl, by repeat (first | exact Ext.refl _ | refine Ext.drew ?_ | refine Ext.alloc ?_ _ | refine Ext.setCell ?_ (by simp) _)⟩

theorem ball_c (a f : Nat) (w : World) : Calls Tryd.prog 20 #[globeV a f] w (ExR (globeV a f) w) := by
  go_enter Tryd.func20, Tryd.ntmps20
  go_wp2
  exact bodyPost_ret (v := globeV a f) (by simp [results, Tryd.results20, go_sem]) rfl ⟨rfl, by repeat (first | exact Ext.refl _ | refine Ext.drew ?_ | refine Ext.alloc ?_ _ | refine Ext.setCell ?_ (by simp) _)⟩
end Go.Proofs.YtdgaeodkffhciaaDoor
