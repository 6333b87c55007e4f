/- Walks: the place of a vector on a globe, the program's. -/
import Derived.Test.YteebbcdbkkliaaaDoorV8
namespace Go.Proofs.YteebbcdbkkliaaaDoor
open Go.RowKit Go.Fp Go.Rel
set_option maxRecDepth 20000

abbrev cTop : Nat := 4756540486875873280
abbrev cTwo : Nat := 4611686018427387904
def halfP (a : Nat) : Nat := fdiv (can a) (can cTwo)
def rootP (x y : Nat) : Nat := fsqrt (fadd (fmul (can x) (can x)) (fmul (can y) (can y)))
/-- the latitude at first; a step on; the one after so many steps -/
def firstT (f z P : Nat) : Int := angS (can z) (fmul P (fsub (can cOne) (eccP f)))
def stepT (a f z P : Nat) (t : Int) : Int := angS (fadd (can z) (fmul (fmul (eccP f) (crossP a f t)) (can (sinP t)))) P
def iterT (a f z P : Nat) : Nat → Int
  | 0 => firstT f z P
  | n + 1 => stepT a f z P (iterT a f z P n)
def highFlat (a f P : Nat) (t : Int) : Nat := fsub (fdiv P (can (cosP t))) (crossP a f t)
def highSteep (a f z : Nat) (t : Int) : Nat := fsub (fdiv (can z) (can (sinP t))) (fmul (crossP a f t) (fsub (can cOne) (eccP f)))
def highP (a f z P : Nat) (t : Int) : Nat := if t ≤ 45000000000 ∧ -45000000000 ≤ t then highFlat a f P t else highSteep a f z t

/-- the place of a vector and how high it is, or the error's number -/
inductive PlaceIs (a f x y z : Nat) : Int → Int → Nat → Int → Prop
  | shape (h : okG a f = false) : PlaceIs a f x y z 0 0 0 3
  | range (h : okG a f = true) (h1 : btw (lenP (can x) (can y) (can z)) (halfP a) cTop = false) : PlaceIs a f x y z 0 0 0 4
  | ok (h : okG a f = true) (h1 : btw (lenP (can x) (can y) (can z)) (halfP a) cTop = true) :
    PlaceIs a f x y z (angS (can y) (can x)) (iterT a f z (rootP x y) 8) (highP a f z (rootP x y) (iterT a f z (rootP x y) 8)) 0
theorem place_some (a f x y z : Nat) : ∃ lon lat h k, PlaceIs a f x y z lon lat h k := by
  cases h : okG a f
  · exact ⟨_, _, _, _, .shape h⟩
  cases h1 : btw (lenP (can x) (can y) (can z)) (halfP a) cTop
  · exact ⟨_, _, _, _, .range h h1⟩
  · exact ⟨_, _, _, _, .ok h h1⟩

def PlaceR (A : Nat → Addr) (lon lat : Int) (H : Nat) (k : Int) (w : World) (e : Ending) (w' : World) : Prop :=
  ∃ h v, e = .returned (.tuple #[placeV lon lat, .float .f64 h, v]) ∧ can h = H ∧ ErrOf A k v ∧ Ext w w'

theorem order_of {r s : Nat} {R S : Nat} (hr : can r = R) (hs : can s = S) : FloatKind.f64.format.order r s = FloatKind.f64.format.order R S := by
  subst hr hs
  exact (order_can r s).symm
theorem canTop : can cTop = cTop := can_of_not (by decide +kernel)

set_option maxHeartbeats 4000000 in
theorem place_shape {A : Nat → Addr} (a f x y z : Nat) (w : World) (h8 : World8 A w) (h : okG a f = false) :
    Calls Tryd.prog 8 #[globeV a f, vecV x y z] w (PlaceR A 0 0 0 3 w) := by
  have HV : Hid (∀ w, World8 A w → Calls Tryd.prog 27 #[globeV a f] w (ExR (errV (A 2)) w)) := fun w h' => by simpa [h] using valid_c a f w h'
  clear h
  go_enter Tryd.func8, Tryd.ntmps8
  go_wp2_with (first
    | (go_at_call 27; refine (HV.out _ (h8.ext (by repeat (first | exact Ext.refl _ | refine Ext.alloc ?_ _)))).mono ?_; rintro e w1 ⟨rfl, hx1⟩; obtain ⟨hb1, hb2, hb3, hw1⟩ := ext3 hx1)
    | (refine wpList_own rfl 26 _ _ rfl _ _ rfl rfl _ _ hb3 (by kernel_rfl) rfl (by simp [Value.oneCell']) ?_; intro w2 hb4 hk2 _; have hw2 : Ext w w2 := hk2 _ hw1 (by omega); have c4 := hb4.cell; clear hb3 hk2))
  exact bodyPost_ret (v := .tuple #[placeV 0 0, .float .f64 0, errV (A 2)]) (by simp [results, Tryd.results8, go_sem, c4]) rfl ⟨0, _, rfl, can0, .shape, hw2⟩

set_option maxHeartbeats 8000000 in
theorem place_range {A : Nat → Addr} (a f x y z : Nat) (w : World) (h8 : World8 A w) (h : okG a f = true) (h1 : btw (lenP (can x) (can y) (can z)) (halfP a) cTop = false) :
    Calls Tryd.prog 8 #[globeV a f, vecV x y z] w (PlaceR A 0 0 0 4 w) := by
  have HV : Hid (∀ w, World8 A w → Calls Tryd.prog 27 #[globeV a f] w (ExR .nilIface w)) := fun w h' => by simpa [h] using valid_c a f w h'
  clear h
  have HL := Lib.hid (length_c x y z)
  unfold halfP at h1
  generalize lenP (can x) (can y) (can z) = L at *
  generalize hH : fdiv (can a) (can cTwo) = H at *
  rcases btw_false h1 with (o1 | o1) | ⟨o1 | o1, o2 | o2⟩
  all_goals
    clear h1
    go_enter Tryd.func8, Tryd.ntmps8
    go_wp2_with (first
      | (go_at_call 27; refine (HV.out _ (h8.ext (by repeat (first | exact Ext.refl _ | refine Ext.alloc ?_ _)))).mono ?_; rintro e w1 ⟨rfl, hx1⟩; obtain ⟨hb1, hb2, hb3, hw1⟩ := ext3 hx1; have c2 := hb2.cell)
      | (go_at_call 32; refine (HL.out _).mono ?_; rintro e w2 ⟨r1, rfl, hr1, hx2⟩; clear c2; replace hb1 := hb1.ext hx2; replace hb3 := hb3.ext hx2; have hw2 := hw1.trans hx2; have c1 := hb1.cell)
      | ((with_reducible refine upon_fl rfl ?_); intro r2 n hr2; have p1 := order_of hr1 (hr2.trans hH); have p2 := order_of hr1 canTop; rw [o1] at p1; try rw [o2] at p2))
    have hl0 := cell_lt (h8.errs.cell 0 (by decide))
    have kg := (h8.ext hw2).errs.cell 0 (by decide)
    have hne : ¬ (0 = w.heap.size + 1 + 1) := by omega
    have hne' : ¬ (w.heap.size + 1 + 1 = 0) := by omega
    have c3 := hb3.cell
    have f3 := hb3.frozen
    have hlt := hb3.lt
    clear c1 hb1 hb2 hx1 HV HL
    go_region
    all_goals go_wp2
    all_goals exact bodyPost_ret (v := .tuple #[placeV 0 0, .float .f64 0, errV (A 0)]) (by simp [results, Tryd.results8, go_sem, c3]) rfl ⟨0, _, rfl, can0, .range, (by repeat (first | exact hw2 | refine Ext.drew ?_ | refine Ext.setCell ?_ (by simp; omega) _ | refine Ext.drewN ?_ _))⟩
end Go.Proofs.YteebbcdbkkliaaaDoor
