/- Walks of package grain: Angle, whole; Length. -/
import Derived.Test.YtegbkidjehjhmaaDoorG6
namespace Go.Proofs.YtegbkidjehjhmaaDoor
set_option maxRecDepth 20000
open Go.RowKit Go.Fp Go.Rel

theorem order_some {x : Nat} (h : isNan x = false) : ∃ o, D.order x 0 = some o := by
  unfold isNan at h
  unfold Ieee.Format.order
  have e : D.read 0 = .number false 0 (-1074) := by decide +kernel
  rw [e]
  cases hd : D.read x with
  | nan s t => rw [hd] at h; cases h
  | number s m p => exact ⟨_, rfl⟩
  | infinity s => exact ⟨_, rfl⟩

theorem angle_c (y x : Nat) (w : World) : Calls Tryd.prog 48 #[.float .f64 y, .float .f64 x] w (AnR (angleP (can y) (can x)) w) := by
  cases hx : finP (can x) with
  | false =>
    have e : angleP (can y) (can x) = (0, false) := by unfold angleP; rw [hx]; rfl
    rw [e]; exact angle_no1 y x w hx
  | true =>
    cases hy : finP (can y) with
    | false =>
      have e : angleP (can y) (can x) = (0, false) := by unfold angleP; rw [hx, hy]; rfl
      rw [e]; exact angle_no2 y x w hx hy
    | true =>
      have hcx := fin_num hx
      have hcy := fin_num hy
      have hnx : isNan x = false := by
        cases hn : isNan x
        · rfl
        · rw [can_of_nan hn] at hx; exact absurd hx (by decide +kernel)
      have hny : isNan y = false := by
        cases hn : isNan y
        · rfl
        · rw [can_of_nan hn] at hy; exact absurd hy (by decide +kernel)
      obtain ⟨ox, hox⟩ := order_some hnx
      obtain ⟨oy, hoy⟩ := order_some hny
      by_cases hne : ox = .eq ∧ oy = .eq
      · obtain ⟨rfl, rfl⟩ := hne
        have hx0 : (D.order x 0 == some .eq) = true := by rw [hox]; rfl
        have hy0 : (D.order y 0 == some .eq) = true := by rw [hoy]; rfl
        have e : angleP (can y) (can x) = (0, false) := by
          unfold angleP feq
          rw [hx, hy, hcx, hcy, hx0, hy0]; rfl
        rw [e]; exact angle_no3 y x w hx hy hx0 hy0
      · exact angle_yes y x w hx hy ox oy hox hoy hne

/-- the root of x * x + y * y + z * z -/
def lenP (x y z : Nat) : Nat := fsqrt (fadd (fadd (fmul x x) (fmul y y)) (fmul z z))

end Go.Proofs.YtegbkidjehjhmaaDoor
