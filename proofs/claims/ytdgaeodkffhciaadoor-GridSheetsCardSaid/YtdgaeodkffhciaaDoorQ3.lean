/- Lists of sheets: plain lists, and as slices in memory. -/
import Derived.Test.YtdgaeodkffhciaaDoorQ2
namespace Go.Proofs.YtdgaeodkffhciaaDoor
open Go.RowKit Go.Rel
set_option maxRecDepth 20000

/-- a sheet: its column, its row, its box -/
structure Sh where
  col : Int
  row : Int
  x0 : Int
  y0 : Int
  x1 : Int
  y1 : Int
def Sh.cells (s : Sh) : List Value := [.int .i64 s.col, .int .i64 s.row, .int .i64 s.x0, .int .i64 s.y0, .int .i64 s.x1, .int .i64 s.y1]
def flat (l : List Sh) : List Value := l.flatMap Sh.cells
theorem flat_app (l m : List Sh) : flat (l ++ m) = flat l ++ flat m := by simp [flat]
theorem flat_one (s : Sh) : flat [s] = s.cells := by simp [flat]
theorem flat_length (l : List Sh) : (flat l).length = l.length * 6 := by
  induction l with
  | nil => rfl
  | cons s l ih =>
    have : flat (s :: l) = s.cells ++ flat l := by simp [flat]
    rw [this, List.length_append, ih]
    simp [Sh.cells]; omega
theorem flat_get (l : List Sh) (i j : Nat) (hi : i < l.length) (hj : j < 6) : (flat l)[i * 6 + j]? = (l[i]).cells[j]? := by
  induction l generalizing i with
  | nil => simp at hi
  | cons s l ih =>
    have e : flat (s :: l) = s.cells ++ flat l := by simp [flat]
    have hc : s.cells.length = 6 := rfl
    rw [e]
    cases i with
    | zero => rw [List.getElem?_append_left (by rw [hc]; omega)]; simp
    | succ i =>
      rw [List.getElem?_append_right (by rw [hc]; omega), hc, show (i + 1) * 6 + j - 6 = i * 6 + j by omega, ih i (by simpa using hi)]
      simp

/-- the sheets of r whole rows of m each, then c of the next row -/
def rows (m : Nat) (f : Nat → Nat → Sh) : Nat → List Sh
  | 0 => []
  | r + 1 => rows m f r ++ (List.range m).map (f r)
def part (m : Nat) (f : Nat → Nat → Sh) (r c : Nat) : List Sh := rows m f r ++ (List.range c).map (f r)
theorem part_zero (m : Nat) (f : Nat → Nat → Sh) (r : Nat) : part m f r 0 = rows m f r := by simp [part]
theorem part_succ (m : Nat) (f : Nat → Nat → Sh) (r c : Nat) : part m f r (c + 1) = part m f r c ++ [f r c] := by simp [part, List.range_succ]
theorem part_row (m : Nat) (f : Nat → Nat → Sh) (r : Nat) : part m f r m = rows m f (r + 1) := rfl
theorem rows_length (m : Nat) (f : Nat → Nat → Sh) (r : Nat) : (rows m f r).length = r * m := by
  induction r with
  | zero => simp [rows]
  | succ r ih => simp [rows, ih, Nat.succ_mul]
theorem part_length (m : Nat) (f : Nat → Nat → Sh) (r c : Nat) : (part m f r c).length = r * m + c := by simp [part, rows_length]
theorem mem_rows {m : Nat} {f : Nat → Nat → Sh} {R r c : Nat} (hr : r < R) (hc : c < m) : f r c ∈ rows m f R := by
  induction R with
  | zero => omega
  | succ R ih =>
    simp only [rows, List.mem_append, List.mem_map, List.mem_range]
    rcases Nat.lt_or_ge r R with h | h
    · exact .inl (ih h)
    · exact .inr ⟨c, hc, by rw [show r = R by omega]⟩

/-- the sheet in a row and a column -/
def sheetAt (lx ly wide high lap : Int) (r c : Nat) : Sh := ⟨c, r, lx + (c : Int) * wide - lap, ly + (r : Int) * high - lap, lx + (c : Int) * wide + wide - 1 + lap, ly + (r : Int) * high + high - 1 + lap⟩
/-- how many columns or rows -/
def many (lo hi step : Int) : Nat := ((hi - lo).tdiv step + 1).toNat
theorem many_spec {lo hi step : Int} (h : lo ≤ hi) (hs : 0 < step) : ((many lo hi step : Nat) : Int) = (hi - lo).tdiv step + 1 ∧ ∀ k : Int, 0 ≤ k → (lo + k * step ≤ hi ↔ k < (many lo hi step : Nat)) := by
  have e : (hi - lo).tdiv step = (hi - lo) / step := Int.tdiv_eq_ediv_of_nonneg (by omega)
  have h0 : 0 ≤ (hi - lo) / step := Int.ediv_nonneg (by omega) (by omega)
  have hm : ((many lo hi step : Nat) : Int) = (hi - lo).tdiv step + 1 := by unfold many; rw [e]; omega
  refine ⟨hm, fun k hk => ?_⟩
  rw [hm, e]
  have := Int.le_ediv_iff_mul_le (a := k) (b := hi - lo) hs
  constructor
  · intro h1; have := this.2 (by omega); omega
  · intro h1; have := this.1 (by omega); omega
theorem many_le {lo hi step : Int} (h : lo ≤ hi) (hs : 0 < step) : 0 ≤ (hi - lo).tdiv step ∧ (hi - lo).tdiv step ≤ hi - lo := by
  rw [Int.tdiv_eq_ediv_of_nonneg (by omega)]
  exact ⟨Int.ediv_nonneg (by omega) (by omega), Int.ediv_le_self _ (by omega)⟩

/-- a slice of sheets that reads as this list -/
def SheetsAt (w : World) (v : Value) (l : List Sh) : Prop :=
  ∃ b cap, (l = [] ∧ v = .slice none 0 cap) ∨ (v = .slice (some ⟨b, 0, none⟩) l.length cap ∧ ∀ i j (hi : i < l.length), j < 6 → w.cell? ⟨b, i * 6 + j, none⟩ = (l[i]).cells[j]?)
theorem cell_some_lt {w : World} {a : Addr} {v : Value} (h : w.cell? a = some v) : a.block < w.heap.size := World.block_lt_of_cell? w a h
theorem SheetsAt.ext {w w' : World} {v : Value} {l : List Sh} (h : SheetsAt w v l) (hx : Ext w w') : SheetsAt w' v l := by
  obtain ⟨b, cap, h | ⟨h1, h2⟩⟩ := h
  · exact ⟨b, cap, .inl h⟩
  · refine ⟨b, cap, .inr ⟨h1, fun i j hi hj => ?_⟩⟩
    have h0 := h2 i j hi hj
    have hl : (l[i]).cells.length = 6 := rfl
    rw [List.getElem?_eq_getElem (by rw [hl]; exact hj)] at h0
    rw [hx.cell b _ (cell_some_lt h0), h2 i j hi hj]
theorem SheetsAt.nil (w : World) : SheetsAt w (.slice none 0 0) [] := ⟨0, 0, .inl ⟨rfl, rfl⟩⟩
theorem sheets_of_owns {w : World} {base n : Nat} {e : TypeId} {v : Value} {l : List Sh} (h : w.ownsRow base e 6 v n (flat l)) (hn : l.length = n) : SheetsAt w v l := by
  subst hn
  obtain ⟨_, ⟨rfl, hn⟩ | ⟨g, cap, cur, rfl, hh⟩⟩ := id h
  · have : l = [] := List.length_eq_zero_iff.1 hn
    subst this
    exact SheetsAt.nil w
  · refine ⟨g, cap, .inr ⟨rfl, fun i j hi hj => ?_⟩⟩
    rw [h.cellAt _ (by omega), flat_get l i j hi hj]

/-- one more sheet, behind an append -/
theorem rel_sheet {B n : Nat} {e : TypeId} {l : List Sh} {s : Sh} {w0 wr wb w1 : World} {v v' : Value} (hB : B ≤ wr.heap.size) (hb : Below B wr wb)
    (hown : wr.ownsRow B e 6 v n (flat l)) (hnx : Below B w0 wr)
    (hown' : w1.ownsRow B e 6 v' (n + 1) (flat l ++ s.cells)) (hgrow : wb.grownBy w1 v.ownBlock) :
    w1.ownsRow B e 6 v' (n + 1) (flat (l ++ [s])) ∧ Below B w0 w1 := by
  refine ⟨by rw [flat_app, flat_one]; exact hown', (hnx.trans hb).grown hgrow (Nat.le_trans hB hb.size) (fun j hj => (hown.lt j hj).1)⟩
end Go.Proofs.YtdgaeodkffhciaaDoor
