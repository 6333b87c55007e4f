/- On which sheets a point lies: plain lists. -/
import Derived.Test.YtdgaeodkffhciaaDoorQ3
namespace Go.Proofs.YtdgaeodkffhciaaDoor
open Go.RowKit Go.Rel
set_option maxRecDepth 20000

def sh0 : Sh := ⟨0, 0, 0, 0, 0, 0⟩
def InSh (px py : Int) (s : Sh) : Prop := s.x0 ≤ px ∧ px ≤ s.x1 ∧ s.y0 ≤ py ∧ py ≤ s.y1
instance (px py : Int) (s : Sh) : Decidable (InSh px py s) := by unfold InSh; infer_instance
/-- the numbers, below k, of the sheets on which the point lies -/
def hitsTo (px py : Int) (S : List Sh) : Nat → List Int
  | 0 => []
  | k + 1 => hitsTo px py S k ++ (if InSh px py (S.getD k sh0) then [(k : Int)] else [])
theorem hits_len (px py : Int) (S : List Sh) (k : Nat) : (hitsTo px py S k).length ≤ k := by
  induction k with
  | zero => simp [hitsTo]
  | succ k ih =>
    simp only [hitsTo, List.length_append]
    split <;> simp <;> omega
theorem hits_yes {px py : Int} {S : List Sh} {k : Nat} (h : InSh px py (S.getD k sh0)) : hitsTo px py S (k + 1) = hitsTo px py S k ++ [(k : Int)] := by show _ ++ (if _ then _ else _) = _; rw [if_pos h]
theorem hits_no {px py : Int} {S : List Sh} {k : Nat} (h : ¬ InSh px py (S.getD k sh0)) : hitsTo px py S (k + 1) = hitsTo px py S k := by show _ ++ (if _ then _ else _) = _; rw [if_neg h, List.append_nil]
theorem hits_ne {px py : Int} {S : List Sh} {i : Nat} (h : InSh px py (S.getD i sh0)) : ∀ n, i < n → hitsTo px py S n ≠ []
  | 0, hn => by omega
  | n + 1, hn => by
    simp only [hitsTo]
    rcases Nat.lt_or_ge i n with h1 | h1
    · have := hits_ne h n h1
      intro e
      exact this (List.append_eq_nil_iff.1 e).1
    · have : i = n := by omega
      subst this
      rw [if_pos h]
      simp
/-- a point of the box lies on some sheet -/
theorem cover {lx ly hx hy wide high lap px py : Int} (h1 : lx ≤ hx) (h2 : ly ≤ hy) (hw : 0 < wide) (hh : 0 < high) (hl : 0 ≤ lap) (a : lx ≤ px) (b : px ≤ hx) (c : ly ≤ py) (d : py ≤ hy) :
    hitsTo px py (rows (many lx hx wide) (sheetAt lx ly wide high lap) (many ly hy high)) (rows (many lx hx wide) (sheetAt lx ly wide high lap) (many ly hy high)).length ≠ [] := by
  have e1 := Int.emod_add_mul_ediv (px - lx) wide
  have e2 := Int.emod_add_mul_ediv (py - ly) high
  have m1 := Int.emod_nonneg (px - lx) (show wide ≠ 0 by omega)
  have m2 := Int.emod_lt_of_pos (px - lx) hw
  have m3 := Int.emod_nonneg (py - ly) (show high ≠ 0 by omega)
  have m4 := Int.emod_lt_of_pos (py - ly) hh
  have n1 : 0 ≤ (px - lx) / wide := Int.ediv_nonneg (by omega) (by omega)
  have n2 : 0 ≤ (py - ly) / high := Int.ediv_nonneg (by omega) (by omega)
  obtain ⟨p, hp⟩ := Int.eq_ofNat_of_zero_le n1
  obtain ⟨q, hq⟩ := Int.eq_ofNat_of_zero_le n2
  rw [hp, Int.mul_comm] at e1
  rw [hq, Int.mul_comm] at e2
  have hpC : p < many lx hx wide := by have := ((many_spec h1 hw).2 (p : Int) (by omega)).1 (by omega); omega
  have hqR : q < many ly hy high := by have := ((many_spec h2 hh).2 (q : Int) (by omega)).1 (by omega); omega
  have hmem := mem_rows (f := sheetAt lx ly wide high lap) hqR hpC
  obtain ⟨i, hi, he⟩ := List.getElem_of_mem hmem
  refine hits_ne (i := i) ?_ _ hi
  have : (rows (many lx hx wide) (sheetAt lx ly wide high lap) (many ly hy high)).getD i sh0 = sheetAt lx ly wide high lap q p := by
    rw [List.getD_eq_getElem?_getD, List.getElem?_eq_getElem hi, he]; rfl
  rw [this]
  simp only [InSh, sheetAt]
  omega
/-- behind an append: below B the world is as it was -/
theorem rel_grow {B n : Nat} {e : TypeId} {size : Nat} {xs : List Value} {w0 wr wb w1 : World} {v : Value} (hB : B ≤ wr.heap.size) (hb : Below B wr wb)
    (hown : wr.ownsRow B e size v n xs) (hnx : Below B w0 wr) (hgrow : wb.grownBy w1 v.ownBlock) : Below B w0 w1 :=
  (hnx.trans hb).grown hgrow (Nat.le_trans hB hb.size) (fun j hj => (hown.lt j hj).1)
end Go.Proofs.YtdgaeodkffhciaaDoor
