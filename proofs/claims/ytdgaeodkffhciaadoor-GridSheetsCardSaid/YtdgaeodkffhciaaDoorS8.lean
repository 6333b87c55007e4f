/- The law GridSheets, joined. -/
import Derived.Test.YtdgaeodkffhciaaDoorS6
import Derived.Test.YtdgaeodkffhciaaDoorS7
namespace Go.Proofs.YtdgaeodkffhciaaDoor
open Go.RowKit Go.Rel
set_option maxRecDepth 20000

theorem rows_ne {m : Nat} {f : Nat → Nat → Sh} {r : Nat} (h : 0 < r * m) : rows m f r ≠ [] := by
  intro e
  have := rows_length m f r
  rw [e] at this
  simp at this
  omega

theorem gridSheets_walk {A : Nat → Addr} (lx ly hx hy wide high lap px py : Int) (w : World) (h8 : World8 A w) :
    Calls Tryd.prog 4 #[boxV lx ly hx hy, .int .i64 wide, .int .i64 high, .int .i64 lap, .agg #[.int .i64 px, .int .i64 py]] w (ExR (.bool true) w) := by
  cases hb : boxP lx ly hx hy
  · exact gs_bad lx ly hx hy wide high lap px py w h8 (k := 3) (by decide) .shape (fun w h => sheets_shape0 lx ly hx hy wide high lap w h hb) (fun w => sheetsOf_shape0 lx ly hx hy wide high lap w hb)
  cases hs : okS wide high lap
  · exact gs_bad lx ly hx hy wide high lap px py w h8 (k := 3) (by decide) .shape (fun w h => sheets_shape1 lx ly hx hy wide high lap w h hb hs) (fun w => sheetsOf_shape1 lx ly hx hy wide high lap w hb hs)
  rcases Nat.lt_or_ge 4000 (howMany lx ly hx hy wide high) with hm | hm
  · exact gs_bad lx ly hx hy wide high lap px py w h8 (k := 2) (by decide) .bound (fun w h => sheets_bound lx ly hx hy wide high lap w h hb hs hm) (fun w => sheetsOf_bound lx ly hx hy wide high lap w hb hs hm)
  obtain ⟨_, _, _, _, xh, yh⟩ := box_in hb
  obtain ⟨s1, s2, s3, s4, s5, s6⟩ := okS_true hs
  have m1 := (many_spec xh (show 0 < wide by omega)).1
  have m2 := (many_spec yh (show 0 < high by omega)).1
  have p1 := (many_le xh (show 0 < wide by omega)).1
  have p2 := (many_le yh (show 0 < high by omega)).1
  have hpos : 0 < many ly hy high * many lx hx wide := Nat.mul_pos (by omega) (by omega)
  have hne := rows_ne (f := sheetAt lx ly wide high lap) hpos
  refine gs_ok lx ly hx hy wide high lap px py w h8 (rows (many lx hx wide) (sheetAt lx ly wide high lap) (many ly hy high)) (many ly hy high * many lx hx wide) (rows_length _ _ _) hpos hm ?_ ?_ ?_
  · intro w
    refine (sheets_ok lx ly hx hy wide high lap w hb hs hm).mono ?_
    rintro e w' ⟨ad, n, cap, rfl, hI, hx⟩
    obtain ⟨b, rfl, rfl, hr⟩ := sheets_block hI hne
    rw [rows_length]
    exact ⟨b, cap, rfl, hr, hx⟩
  · intro w
    refine (sheetsOf_ok lx ly hx hy wide high lap w hb hs hm).mono ?_
    rintro e w' ⟨ad, n, cap, rfl, hI, hx⟩
    obtain ⟨b, rfl, rfl, hr⟩ := sheets_block hI hne
    rw [rows_length]
    exact ⟨b, cap, rfl, hr, hx⟩
  · intro a b c d
    have := cover xh yh (show 0 < wide by omega) (show 0 < high by omega) s5 a b c d
    rwa [rows_length] at this
end Go.Proofs.YtdgaeodkffhciaaDoor
