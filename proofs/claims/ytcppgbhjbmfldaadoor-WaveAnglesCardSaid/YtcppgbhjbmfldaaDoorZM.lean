/- Walk: the logarithm of the reference. -/
import Derived.Test.YtcppgbhjbmfldaaDoorZL
import Derived.Deep.RegionHeld3
import Derived.Deep.DeepCutAuto
namespace Go.Proofs.YtcppgbhjbmfldaaDoor
open Go.RowKit Go.Fp Go.Rel Ieee
set_option maxRecDepth 20000

def cN (k : Nat) : Nat := floatOfInt .f64 (21 - 2 * (k : Int))
def cM : Value → Nat
  | .float _ x => if x = cN 0 then 12 else if x = cN 1 then 11 else if x = cN 2 then 10 else if x = cN 3 then 9 else if x = cN 4 then 8 else if x = cN 5 then 7 else if x = cN 6 then 6 else if x = cN 7 then 5 else if x = cN 8 then 4 else if x = cN 9 then 3 else if x = cN 10 then 2 else 1
  | _ => 0
/-- at or above root two; below root one half -/
def hiB (m : Nat) (j : Int) : Prop := CR * 2 ^ 1022 ≤ m * 2 ^ (j + 1074).toNat
def loB (m : Nat) (j : Int) : Prop := m * 2 ^ (j + 1074).toNat < CR * 2 ^ 1021
end Go.Proofs.YtcppgbhjbmfldaaDoor

/- Walks: the isometric latitude of the reference. -/
namespace Go.Proofs.YtcppgbhjbmfldaaDoor
open Go.RowKit Go.Fp Go.Rel
set_option maxRecDepth 20000

def SpGlI (g : Nat → Nat → Int → Nat) (args : Array Value) (v : Value) : Prop := ∃ (a f : Nat) (l : Int), args = #[globeV a f, .int .i64 l] ∧ isFl (g a f l) v
end Go.Proofs.YtcppgbhjbmfldaaDoor

/- Walks: which papers are valid, and which places on them. -/
namespace Go.Proofs.YtcppgbhjbmfldaaDoor
open Go.RowKit Go.Fp Go.Rel
set_option maxRecDepth 20000

abbrev sMer : ByteArray := { data := #[109, 101, 114, 99, 97, 116, 111, 114] }
abbrev sEqu : ByteArray := { data := #[101, 113, 117, 97, 108] }
abbrev sPol : ByteArray := { data := #[112, 111, 108, 97, 114] }
/-- the kinds of paper -/
inductive KindIs : ByteArray → Nat → Prop
  | mer : KindIs sMer 0
  | equ : KindIs sEqu 1
  | pol : KindIs sPol 2
  | not {s : ByteArray} (h1 : (s.toList == [109, 101, 114, 99, 97, 116, 111, 114]) = false) (h2 : (s.toList == [101, 113, 117, 97, 108]) = false) (h3 : (s.toList == [112, 111, 108, 97, 114]) = false) : KindIs s 3
abbrev paperV (a f : Nat) (s : ByteArray) (mid : Int) (sc : Nat) : Value := .agg #[.float .f64 a, .float .f64 f, .string s, .int .i64 mid, .float .f64 sc]
abbrev placeW (lon lat : Int) : Value := .agg #[.int .i64 lon, .int .i64 lat]
/-- the error's number of a paper: g, whether its globe is one; n, its kind -/
def papP (g : Bool) (n : Nat) (sc : Nat) : Int := if g = true then if n = 3 then 5 else if btw sc 4591870180066957722 4621819117588971520 = true then 0 else 3 else 3

/-- the error's number of a place on a paper -/
def chkP (e : Int) (n : Nat) (lat : Int) : Int := if 0 < e then e else if 89000000000 < lat ∨ lat < -89000000000 then 4 else if n = 2 ∧ lat < 0 then 4 else 0
end Go.Proofs.YtcppgbhjbmfldaaDoor

/- Walks: how far a latitude is from the pole, and how far up it is, on paper: package flat's and the reference's. -/
namespace Go.Proofs.YtcppgbhjbmfldaaDoor
open Go.RowKit Go.Fp Go.Rel
set_option maxRecDepth 20000

abbrev kOne : Nat := 4607182418800017408
abbrev kTwo : Nat := 4611686018427387904
def poleP (f : Nat) : Nat := expP (fdiv (fadd (fmul (fadd (can kOne) (fsqrt (eccP f))) (can (lnP (fadd (can kOne) (fsqrt (eccP f)))))) (fmul (fsub (can kOne) (fsqrt (eccP f))) (can (lnP (fsub (can kOne) (fsqrt (eccP f))))))) (can kTwo))
def downP (a f sc : Nat) (lat : Int) : Nat := fdiv (fmul (fmul (can kTwo) (fmul (can a) (can sc))) (expP (negC (isoP f lat)))) (poleP f)
def upQ (f : Nat) (lat : Int) : Nat := if D.order (fsqrt (eccP f)) 0 = some .eq then fmul (can kTwo) (can (sinP lat)) else
  fmul (fsub (can kOne) (eccP f)) (fadd (fdiv (can (sinP lat)) (fsub (can kOne) (fmul (fmul (eccP f) (can (sinP lat))) (can (sinP lat))))) (fdiv (lnR (fmul (fsqrt (eccP f)) (can (sinP lat)))) (fmul (can kTwo) (fsqrt (eccP f)))))
def upP (a f sc : Nat) (lat : Int) : Nat := fdiv (fmul (fdiv (can a) (can sc)) (upQ f lat)) (can kTwo)

def SpPap (g : Nat → Nat → Nat → Nat) (args : Array Value) (v : Value) : Prop := ∃ (a f : Nat) (s : ByteArray) (mid : Int) (sc : Nat), args = #[paperV a f s mid sc] ∧ isFl (g a f sc) v
def SpPapI (g : Nat → Nat → Nat → Int → Nat) (args : Array Value) (v : Value) : Prop := ∃ (a f : Nat) (s : ByteArray) (mid : Int) (sc : Nat) (l : Int), args = #[paperV a f s mid sc, .int .i64 l] ∧ isFl (g a f sc l) v
/-- what the functions that regions call hand back -/
def FU (g : FuncId) (args : Array Value) (v : Value) : Prop :=
  (g = 33 ∧ SpIntN (fun a => .float .f64 (sinP a)) args v) ∨ (g = 34 ∧ SpIntN (fun a => .float .f64 (cosP a)) args v) ∨
  (g = 59 ∧ SpGl (fun _ f => eccP f) args v) ∨ (g = 15 ∧ SpGl (fun _ f => eccP f) args v) ∨
  (g = 35 ∧ SpOne fsqrt args v) ∨ (g = 24 ∧ SpTri (fun x y z => fsub x (fmul y z)) args v) ∨ (g = 25 ∧ SpTri (fun x y z => fadd x (fmul y z)) args v) ∨
  (g = 70 ∧ SpOne (fun x => can (lnP x)) args v) ∨ (g = 69 ∧ SpOne expP args v) ∨ (g = 63 ∧ SpGlI (fun _ f l => isoP f l) args v) ∨ (g = 52 ∧ SpGlI crossP args v) ∨ (g = 22 ∧ SpGlI crossP args v)
end Go.Proofs.YtcppgbhjbmfldaaDoor

/- Walks: where a place is on paper: package flat's and the reference's. -/
namespace Go.Proofs.YtcppgbhjbmfldaaDoor
open Go.RowKit Go.Fp Go.Rel
set_option maxRecDepth 20000

abbrev flatV (x y : Nat) : Value := .agg #[.float .f64 x, .float .f64 y]
def offN (mid lon : Int) : Int := normP lon - normP mid
def flatX (n a f sc : Nat) (mid lon lat : Int) : Nat := if n = 2 then fmul (downP a f sc lat) (can (sinP (offN mid lon))) else fmul (fmul (can a) (can sc)) (fmul (can (floatOfInt .f64 (signP (offN mid lon)))) (can 4445950764994258515))
def flatY (n a f sc : Nat) (mid lon lat : Int) : Nat := if n = 2 then negC (fmul (downP a f sc lat) (can (cosP (offN mid lon)))) else if n = 1 then upP a f sc lat else fmul (fmul (can a) (can sc)) (isoP f lat)
def SpNorm (f : Int → Int) (args : Array Value) (v : Value) : Prop := ∃ a : Int, args = #[.int .i64 a] ∧ v = .int .i64 (f a)
def FlatR (A : Nat → Addr) (k : Int) (X Y : Nat) (w : World) (e : Ending) (w' : World) : Prop := ∃ x y v, e = .returned (.tuple #[flatV x y, v]) ∧ ErrOf A k v ∧ can x = X ∧ can y = Y ∧ Ext w w'
def FlatQ (X Y : Nat) (w : World) (e : Ending) (w' : World) : Prop := ∃ x y, e = .returned (flatV x y) ∧ can x = X ∧ can y = Y ∧ Ext w w'

theorem setCell_other' (w : World) (n i k : Nat) (v : Value) (h : k ≠ n) : (w.setCell ⟨n, i, none⟩ v).heap[k]? = w.heap[k]? := Below.heap_setCell _ _ _ _ h
def FT (g : FuncId) (args : Array Value) (v : Value) : Prop := FU g args v ∨ (g = 31 ∧ SpNorm normP args v) ∨ (g = 19 ∧ SpNorm normP args v) ∨ (g = 30 ∧ SpNorm signP args v) ∨ (g = 45 ∧ SpNorm signP args v)
end Go.Proofs.YtcppgbhjbmfldaaDoor

/- Walks: where a place is on paper: the reference's. -/
namespace Go.Proofs.YtcppgbhjbmfldaaDoor
open Go.RowKit Go.Fp Go.Rel
set_option maxRecDepth 20000

end Go.Proofs.YtcppgbhjbmfldaaDoor

/- Walks: the paper of the statements, the place that they ask for by its numbers. -/
namespace Go.Proofs.YtcppgbhjbmfldaaDoor
open Go.RowKit Go.Fp Go.Rel
set_option maxRecDepth 20000

end Go.Proofs.YtcppgbhjbmfldaaDoor

/- Several blocks in one fact; what a region leaves that makes a block and stores into it. -/
namespace Go.Rel
open Go.RowKit
/-- several blocks -/
def Bks (w : World) : List (Nat × TypeId × Array Value) → Prop
  | [] => True
  | x :: l => Blk w x.1 x.2.1 x.2.2 ∧ Bks w l
theorem Bks.ext {w w' : World} : ∀ {l : List (Nat × TypeId × Array Value)} (_ : Bks w l) (_ : Ext w w'), Bks w' l
  | [], _, _ => trivial
  | _ :: _, h, hx => ⟨h.1.ext hx, Bks.ext h.2 hx⟩
theorem Blk.keep {w u : World} {n : Nat} {t : TypeId} {c : Array Value} (h : Blk w n t c) (o : Obj) (hs : ∀ k, k ≠ w.heap.size → u.heap[k]? = (w.alloc o).heap[k]?) : Blk u n t c :=
  (h.ext ((Ext.refl w).alloc o)).same hs (by have := h.lt; omega)
theorem Bks.keep {w u : World} : ∀ {l : List (Nat × TypeId × Array Value)} (_ : Bks w l) (o : Obj) (_ : ∀ k, k ≠ w.heap.size → u.heap[k]? = (w.alloc o).heap[k]?), Bks u l
  | [], _, _, _ => trivial
  | _ :: _, h, o, hs => ⟨h.1.keep o hs, Bks.keep h.2 o hs⟩
theorem Bks.same {w u : World} {g : Nat} : ∀ {l : List (Nat × TypeId × Array Value)} (_ : Bks w l) (_ : ∀ k, k ≠ g → u.heap[k]? = w.heap[k]?) (_ : ∀ x ∈ l, x.1 ≠ g), Bks u l
  | [], _, _, _ => trivial
  | x :: _, h, hs, hg => ⟨h.1.same hs (hg x (List.mem_cons_self)), Bks.same h.2 hs (fun y hy => hg y (List.mem_cons_of_mem _ hy))⟩
theorem Bks.cons {w : World} {n : Nat} {t : TypeId} {c : Array Value} {l : List (Nat × TypeId × Array Value)} (h : Blk w n t c) (k : Bks w l) : Bks w ((n, t, c) :: l) := ⟨h, k⟩
theorem Bks.fresh {w : World} : ∀ {l : List (Nat × TypeId × Array Value)} (_ : Bks w l), ∀ x ∈ l, x.1 < w.heap.size
  | [], _, _, hx => by cases hx
  | _ :: _, h, x, hx => by
    cases hx with
    | head => exact h.1.lt
    | tail _ hx => exact Bks.fresh h.2 x hx
end Go.Rel
namespace Go.Proofs.YtcppgbhjbmfldaaDoor
open Go.RowKit Go.Fp Go.Rel
set_option maxRecDepth 20000

theorem blk_set' {w : World} {n i : Nat} {t : TypeId} {cs : Array Value} (v : Value) (h : Blk w n t cs) : Blk (w.setCell ⟨n, i, none⟩ v) n t (cs.setIfInBounds i v) := by
  unfold Blk at *
  simp [World.setCell, Array.getElem?_modify, h]
/-- a block made behind all that is known -/
theorem fin_new {w w3 : World} {l : List (Nat × TypeId × Array Value)} {t : TypeId} {cs : Array Value} (h : Ext w w3) (hl : Bks w3 l) :
    Ext w (w3.alloc (.cells cs t)) ∧ Bks (w3.alloc (.cells cs t)) l ∧ Blk (w3.alloc (.cells cs t)) w3.heap.size t cs :=
  ⟨h.alloc _, hl.ext ((Ext.refl _).alloc _), Blk.new _ _ _⟩
theorem fin_two {w w3 : World} {l : List (Nat × TypeId × Array Value)} {n : Nat} {t : TypeId} {a b u v : Value} (h : Ext w w3) (hl : Bks w3 l) (hz : Blk w3 n t #[a, b]) (hlt : ∀ x ∈ l, x.1 < n) (hw : w.heap.size ≤ n) :
    Ext w ((w3.setCell ⟨n, 0, none⟩ u).setCell ⟨n, 1, none⟩ v) ∧ Bks ((w3.setCell ⟨n, 0, none⟩ u).setCell ⟨n, 1, none⟩ v) l ∧ Blk ((w3.setCell ⟨n, 0, none⟩ u).setCell ⟨n, 1, none⟩ v) n t #[u, v] := by
  have ho : ∀ k, k ≠ n → ((w3.setCell ⟨n, 0, none⟩ u).setCell ⟨n, 1, none⟩ v).heap[k]? = w3.heap[k]? := fun k hk => by
    rw [setCell_other' _ _ _ _ _ hk, setCell_other' _ _ _ _ _ hk]
  refine ⟨(h.setCell hw _).setCell hw _, hl.same ho (fun x hx => Nat.ne_of_lt (hlt x hx)), ?_⟩
  simpa using blk_set' (i := 1) v (blk_set' (i := 0) u hz)
end Go.Proofs.YtcppgbhjbmfldaaDoor

/- The walk of the statement FlatTo. -/
namespace Go.Proofs.YtcppgbhjbmfldaaDoor
open Go.RowKit Go.Fp Go.Rel
set_option maxRecDepth 20000

def isFlat (X Y : Nat) (v : Value) : Prop := ∃ x y, v = flatV x y ∧ can x = X ∧ can y = Y
theorem FlatQ.call {P : Program} {f : FuncId} {args : Array Value} {X Y : Nat} {W : World} (h : Calls P f args W (FlatQ X Y W)) : Calls P f args W (fun e w' => ∃ v, e = .returned v ∧ isFlat X Y v ∧ Ext W w') :=
  h.mono fun _ _ ⟨x, y, he, hx, hy, hw⟩ => ⟨_, he, ⟨x, y, rfl, hx, hy⟩, hw⟩
end Go.Proofs.YtcppgbhjbmfldaaDoor
