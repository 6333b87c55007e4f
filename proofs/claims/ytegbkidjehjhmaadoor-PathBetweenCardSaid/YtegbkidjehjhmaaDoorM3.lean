/- Where one comes to along a geodesic: what it is; several blocks of one's own. -/
import Derived.Test.YtegbkidjehjhmaaDoorM2
namespace Go.Rel
open Go.RowKit
/-- several blocks -/
def Bks (w : World) : List (Nat × TypeId × Array Value) → Prop
  | [] => True
  | x :: l => Blk w x.1 x.2.1 x.2.2 ∧ Bks w l
theorem Bks.ext {w w' : World} : ∀ {l : List (Nat × TypeId × Array Value)} (_ : Bks w l) (_ : Ext w w'), Bks w' l
  | [], _, _ => trivial
  | _ :: _, h, hx => ⟨h.1.ext hx, Bks.ext h.2 hx⟩
theorem Blk.keep {w u : World} {n : Nat} {t : TypeId} {c : Array Value} (h : Blk w n t c) (o : Obj) (hs : ∀ k, k ≠ w.heap.size → u.heap[k]? = (w.alloc o).heap[k]?) : Blk u n t c :=
  (h.ext ((Ext.refl w).alloc o)).same hs (by have := h.lt; omega)
theorem Bks.keep {w u : World} : ∀ {l : List (Nat × TypeId × Array Value)} (_ : Bks w l) (o : Obj) (_ : ∀ k, k ≠ w.heap.size → u.heap[k]? = (w.alloc o).heap[k]?), Bks u l
  | [], _, _, _ => trivial
  | _ :: _, h, o, hs => ⟨h.1.keep o hs, Bks.keep h.2 o hs⟩
theorem Bks.same {w u : World} {g : Nat} : ∀ {l : List (Nat × TypeId × Array Value)} (_ : Bks w l) (_ : ∀ k, k ≠ g → u.heap[k]? = w.heap[k]?) (_ : ∀ x ∈ l, x.1 ≠ g), Bks u l
  | [], _, _, _ => trivial
  | x :: _, h, hs, hg => ⟨h.1.same hs (hg x (List.mem_cons_self)), Bks.same h.2 hs (fun y hy => hg y (List.mem_cons_of_mem _ hy))⟩
theorem Bks.cons {w : World} {n : Nat} {t : TypeId} {c : Array Value} {l : List (Nat × TypeId × Array Value)} (h : Blk w n t c) (k : Bks w l) : Bks w ((n, t, c) :: l) := ⟨h, k⟩
theorem Bks.fresh {w : World} : ∀ {l : List (Nat × TypeId × Array Value)} (_ : Bks w l), ∀ x ∈ l, x.1 < w.heap.size
  | [], _, _, hx => by cases hx
  | _ :: _, h, x, hx => by
    cases hx with
    | head => exact h.1.lt
    | tail _ hx => exact Bks.fresh h.2 x hx
end Go.Rel
namespace Go.Proofs.YtegbkidjehjhmaaDoor
open Go.RowKit Go.Fp Go.Rel
set_option maxRecDepth 20000

def rcP (f : Nat) (lat : Int) : Nat := fdiv (redX lat) (redD f lat)
def rsP (f : Nat) (lat : Int) : Nat := fdiv (redY f lat) (redD f lat)
/-- an angle in radians -/
def radP (n : Int) : Nat := fmul (can (floatOfInt .f64 n)) (can cRad)
def oStep (s1 q first o : Nat) : Nat := fadd first (offP q (can (sinP (nearP o))) (can (cosP (nearP o))) (can (cosP (nearP (fadd (fmul (can c2) s1) o)))))
def oIt (s1 q first : Nat) : Nat → Nat
  | 0 => first
  | k + 1 => oStep s1 q first (oIt s1 q first k)
abbrev far2 : Nat := 4716133919349538816

/-- all that the two ways reckon, of a geodesic's beginning: cosine, sine of its reduced latitude; sine, cosine of its azimuth -/
structure ReachV where
  (a f : Nat) (lon lat out : Int) (far : Nat)
namespace ReachV
variable (v : ReachV)
def cu : Nat := rcP v.f v.lat
def su : Nat := rsP v.f v.lat
def sa1 : Nat := can (sinP v.out)
def ca1 : Nat := can (cosP v.out)
def s1 : Nat := radP (angleP v.su (fmul v.cu v.ca1)).1
def sa : Nat := fmul v.cu v.sa1
def ca : Nat := fsub (can c1) (fmul v.sa v.sa)
def p : Nat := ofP (uP v.f v.ca)
def q : Nat := ofQ (uP v.f v.ca)
def first : Nat := fdiv (can v.far) (fmul (fmul (can v.a) (fsub (can c1) (can v.f))) v.p)
def o : Nat := oIt v.s1 v.q v.first 60
def cm : Nat := can (cosP (nearP (fadd (fmul (can c2) v.s1) v.o)))
def ss : Nat := can (sinP (nearP v.o))
def cs : Nat := can (cosP (nearP v.o))
def t : Nat := fsub (fmul v.su v.ss) (fmul (fmul v.cu v.cs) v.ca1)
def north : Int × Bool := angleP (fadd (fmul v.su v.cs) (fmul (fmul v.cu v.ss) v.ca1)) (fmul (fsub (can c1) (can v.f)) (fsqrt (fadd (fmul v.sa v.sa) (fmul v.t v.t))))
def ang : Int := (angleP (fmul v.ss v.sa1) (fsub (fmul v.cu v.cs) (fmul (fmul v.su v.ss) v.ca1))).1
def l : Nat := radP (signP v.ang)
def east : Int := nearP (fsub v.l (longerP (can v.f) (thirdP (can v.f) v.ca) v.sa v.o v.ss v.cs v.cm))
end ReachV

/-- where one comes to, or the error's number -/
inductive ReachIs (v : ReachV) : Int → Int → Int → Prop
  | shape (h : okG v.a v.f = false) : ReachIs v 0 0 3
  | range1 (h : okG v.a v.f = true) (h1 : 90000000000 < v.lat) : ReachIs v 0 0 4
  | range2 (h : okG v.a v.f = true) (h1 : v.lat ≤ 90000000000) (h2 : v.lat < -90000000000) : ReachIs v 0 0 4
  | range3 (h : okG v.a v.f = true) (h1 : v.lat ≤ 90000000000) (h2 : -90000000000 ≤ v.lat) (h3 : btw v.far 0 far2 = false) : ReachIs v 0 0 4
  | none (h : okG v.a v.f = true) (h1 : v.lat ≤ 90000000000) (h2 : -90000000000 ≤ v.lat) (h3 : btw v.far 0 far2 = true) (h4 : v.north.2 = false) : ReachIs v 0 0 6
  | ok (h : okG v.a v.f = true) (h1 : v.lat ≤ 90000000000) (h2 : -90000000000 ≤ v.lat) (h3 : btw v.far 0 far2 = true) (h4 : v.north.2 = true) :
    ReachIs v (signP (normP v.lon + normP v.east)) (signP v.north.1) 0
theorem reach_some (v : ReachV) : ∃ x y k, ReachIs v x y k := by
  cases h : okG v.a v.f
  · exact ⟨_, _, _, .shape h⟩
  rcases Int.lt_or_le 90000000000 v.lat with h1 | h1
  · exact ⟨_, _, _, .range1 h h1⟩
  rcases Int.lt_or_le v.lat (-90000000000) with h2 | h2
  · exact ⟨_, _, _, .range2 h h1 h2⟩
  cases h3 : btw v.far 0 far2
  · exact ⟨_, _, _, .range3 h h1 h2 h3⟩
  cases h4 : v.north.2
  · exact ⟨_, _, _, .none h h1 h2 h3 h4⟩
  · exact ⟨_, _, _, .ok h h1 h2 h3 h4⟩
def ReachR (A : Nat → Addr) (LON LAT k : Int) (w : World) (e : Ending) (w' : World) : Prop := ∃ v, e = .returned (.tuple #[placeV LON LAT, v]) ∧ ErrOf A k v ∧ Ext w w'
def ReachQ (LON LAT k : Int) (w : World) (e : Ending) (w' : World) : Prop := e = .returned (.tuple #[placeV LON LAT, .int .i64 k]) ∧ Ext w w'
end Go.Proofs.YtegbkidjehjhmaaDoor
