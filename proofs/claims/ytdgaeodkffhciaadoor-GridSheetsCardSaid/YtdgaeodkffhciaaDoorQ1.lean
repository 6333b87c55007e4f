/- Plain arithmetic: the multiples of a step between two numbers. No program in sight. -/
namespace Go.Proofs.YtdgaeodkffhciaaDoor

/-- the first multiple's number at or above low; the last one's at or below high -/
def ceilP (low s : Int) : Int := -((-low) / s)
def floorP (high s : Int) : Int := high / s
theorem floor_iff {s : Int} (hs : 0 < s) (high x : Int) : x * s ≤ high ↔ x ≤ floorP high s := (Int.le_ediv_iff_mul_le hs).symm
theorem ceil_iff {s : Int} (hs : 0 < s) (low x : Int) : low ≤ x * s ↔ ceilP low s ≤ x := by
  have h := floor_iff hs (-low) (-x)
  unfold floorP at h
  unfold ceilP
  constructor
  · intro k
    have := h.1 (by rw [Int.neg_mul]; omega)
    omega
  · intro k
    have := h.2 (by omega)
    rw [Int.neg_mul] at this
    omega
theorem tdiv_le {a s : Int} (_hs : 0 < s) (m : Int) (h1 : a ≤ m) (h2 : -m ≤ a) : a.tdiv s ≤ m ∧ -m ≤ a.tdiv s ∧ a.tdiv s * s ≤ m ∧ -m ≤ a.tdiv s * s := by
  have e := Int.mul_tdiv_add_tmod a s
  have q : (a.tdiv s).natAbs ≤ a.natAbs := by
    rw [Int.natAbs_tdiv]; exact Nat.div_le_self _ _
  have p : (a.tdiv s * s).natAbs ≤ a.natAbs := by
    rw [Int.natAbs_mul, Int.natAbs_tdiv]; exact Nat.div_mul_le_self _ _
  omega
theorem near {a s : Int} (hs : 0 < s) : a.tdiv s * s - a < s ∧ a - a.tdiv s * s < s := by
  have e := Int.mul_tdiv_add_tmod a s
  have h1 := Int.tmod_lt_of_pos a hs
  have h2 : -s < a.tmod s := by
    have := Int.natAbs_tmod a s
    have h3 : a.natAbs % s.natAbs < s.natAbs := Nat.mod_lt _ (by omega)
    omega
  rw [Int.mul_comm] at e
  omega
theorem ceil_tdiv {a s : Int} (hs : 0 < s) : ceilP a s = if a.tdiv s * s < a then a.tdiv s + 1 else a.tdiv s := by
  have n := near (a := a) hs
  split <;> rename_i h
  · have h1 : ceilP a s ≤ a.tdiv s + 1 := (ceil_iff hs a _).1 (by rw [Int.add_mul]; omega)
    have h2 : ¬ ceilP a s ≤ a.tdiv s := fun k => by have := (ceil_iff hs a _).2 k; omega
    omega
  · have h1 : ceilP a s ≤ a.tdiv s := (ceil_iff hs a _).1 (by omega)
    have h2 : ¬ ceilP a s ≤ a.tdiv s - 1 := fun k => by have := (ceil_iff hs a _).2 k; rw [Int.sub_mul] at this; omega
    omega
theorem floor_tdiv {a s : Int} (hs : 0 < s) : floorP a s = if a < a.tdiv s * s then a.tdiv s - 1 else a.tdiv s := by
  have n := near (a := a) hs
  split <;> rename_i h
  · have h1 : a.tdiv s - 1 ≤ floorP a s := (floor_iff hs a _).1 (by rw [Int.sub_mul]; omega)
    have h2 : ¬ a.tdiv s ≤ floorP a s := fun k => by have := (floor_iff hs a _).2 k; omega
    omega
  · have h1 : a.tdiv s ≤ floorP a s := (floor_iff hs a _).1 (by omega)
    have h2 : ¬ a.tdiv s + 1 ≤ floorP a s := fun k => by have := (floor_iff hs a _).2 k; rw [Int.add_mul] at this; omega
    omega
/-- bounds that the walk wants -/
theorem ceil_bound {a s m : Int} (hs : 0 < s) (h1 : a ≤ m) (h2 : -m ≤ a) : ceilP a s ≤ m + 1 ∧ -m - 1 ≤ ceilP a s := by
  have h := tdiv_le hs m h1 h2
  rw [ceil_tdiv hs]; split <;> omega
theorem floor_bound {a s m : Int} (hs : 0 < s) (h1 : a ≤ m) (h2 : -m ≤ a) : floorP a s ≤ m + 1 ∧ -m - 1 ≤ floorP a s := by
  have h := tdiv_le hs m h1 h2
  rw [floor_tdiv hs]; split <;> omega

/-- n multiples of s, from the c-th on -/
def run (c s : Int) (n : Nat) : List Int := (List.range n).map fun (i : Nat) => (c + (i : Int)) * s
theorem run_length (c s : Int) (n : Nat) : (run c s n).length = n := by simp [run]
theorem run_succ (c s : Int) (n : Nat) : run c s (n + 1) = run c s n ++ [(c + (n : Int)) * s] := by simp [run, List.range_succ]
theorem run_getD (c s : Int) (n i : Nat) (h : i < n) : (run c s n).getD i 0 = (c + (i : Int)) * s := by simp [run, h]
end Go.Proofs.YtdgaeodkffhciaaDoor
