/- Walks: globes: which are valid, their eccentricity; the same bits. -/
import Derived.Test.YtcppgbhjbmfldaaDoorZC
namespace Go.Proofs.YtcppgbhjbmfldaaDoor
open Go.RowKit Go.Fp Go.Rel
set_option maxRecDepth 20000

def btw (x lo hi : Nat) : Bool := fge x lo && fle x hi
/-- a globe that is one -/
def okG (a f : Nat) : Bool := btw a 4607182418800017408 4741671816366391296 && btw f 0 4598175219545276416
abbrev globeV (a f : Nat) : Value := .agg #[.float .f64 a, .float .f64 f]

set_option maxHeartbeats 1000000 in
theorem between_c (x lo hi : Nat) (w : World) : Calls Tryd.prog 44 #[.float .f64 x, .float .f64 lo, .float .f64 hi] w (ExR (.bool (btw x lo hi)) w) := by
  go_enter Tryd.func44, Tryd.ntmps44
  go_wp2
  all_goals go_ret
  all_goals (refine ⟨?_, Ext.refl _⟩; first | rfl | (have hD : FloatKind.f64.format = D := rfl; simp only [hD] at *; simp_all [btw, fge, fle]))

theorem globeError_c (a f : Nat) (w : World) : Calls Tryd.prog 43 #[globeV a f] w (ExR (.int .i64 (if okG a f then 0 else 3)) w) := by
  have tk : Hid True := trivial
  have hB1 := Lib.hid (between_c a 4607182418800017408 4741671816366391296)
  have hB2 := Lib.hid (between_c f 0 4598175219545276416)
  have hok : okG a f = (btw a 4607182418800017408 4741671816366391296 && btw f 0 4598175219545276416) := rfl
  rw [hok]
  clear hok
  generalize btw a 4607182418800017408 4741671816366391296 = b1 at *
  generalize btw f 0 4598175219545276416 = b2 at *
  cases b1 <;> cases b2
  all_goals
    go_enter Tryd.func43, Tryd.ntmps43
    go_wp2_with (first
      | (go_at_call 44; clear tk; refine (hB1.out _).mono ?_; rintro e w1 ⟨rfl, hx1⟩; obtain ⟨hb1, hxa⟩ := ext1 hx1; have c1 : w1.cell? ⟨w.heap.size, 1, none⟩ = some (.float .f64 f) := hb1.cell 1)
      | (go_at_call 44; refine (hB2.out _).mono ?_; rintro e w2 ⟨rfl, hx2⟩; have hxb := hxa.trans hx2))
    go_ret
    exact ⟨rfl, hxb⟩

/-- the square of the eccentricity -/
def eccP (f : Nat) : Nat := fmul (can f) (fsub (can 4611686018427387904) (can f))
set_option maxHeartbeats 1000000 in
theorem ecc_c (a f : Nat) (w : World) : Calls Tryd.prog 59 #[globeV a f] w (FlR (eccP f) w) := by
  unfold eccP
  go_enter Tryd.func59, Tryd.ntmps59
  go_wp2_with (first | (with_reducible refine upon_fl rfl ?_; intro r n hr))
  go_ret
  refine ⟨_, rfl, by simp only [*, fbin], ?_⟩
  repeat (first | exact Ext.refl _ | refine Ext.drewN ?_ _ | refine Ext.alloc ?_ _)
set_option maxHeartbeats 1000000 in
theorem squareOf_c (a f : Nat) (w : World) : Calls Tryd.prog 15 #[globeV a f] w (FlR (eccP f) w) := by
  unfold eccP
  go_enter Tryd.func15, Tryd.ntmps15
  go_wp2_with (first | (with_reducible refine upon_fl rfl ?_; intro r n hr))
  go_ret
  refine ⟨_, rfl, by simp only [*, fbin], ?_⟩
  repeat (first | exact Ext.refl _ | refine Ext.drewN ?_ _ | refine Ext.alloc ?_ _)

theorem order_self {x : Nat} (h : isNan x = false) : D.order x x = some .eq := by
  unfold isNan at h
  unfold Ieee.Format.order
  cases e : D.read x with
  | nan s t => rw [e] at h; simp [Ieee.Datum.isNaN] at h
  | infinity s => simp [Ieee.Datum.order]
  | number s m i => simp [Ieee.Datum.order]
end Go.Proofs.YtcppgbhjbmfldaaDoor

/- Walks: globes: the radius across the meridian, the program's and the reference's. -/
namespace Go.Proofs.YtcppgbhjbmfldaaDoor
open Go.RowKit Go.Fp Go.Rel
set_option maxRecDepth 20000

def crossP (a f : Nat) (lat : Int) : Nat := fdiv (can a) (fsqrt (fsub (can 4607182418800017408) (fmul (fmul (eccP f) (can (sinP lat))) (can (sinP lat)))))

/-- of a call with a globe: a number that comes of it -/
def SpGl (g : Nat → Nat → Nat) (args : Array Value) (v : Value) : Prop := ∃ a f : Nat, args = #[globeV a f] ∧ isFl (g a f) v
theorem spGl_iff (g : Nat → Nat → Nat) (a f : Nat) (v : Value) : SpGl g #[globeV a f] v ↔ isFl (g a f) v := by
  unfold SpGl
  exact ⟨fun ⟨_, _, h, k⟩ => by simp at h; obtain ⟨rfl, rfl⟩ := h; exact k, fun h => ⟨_, _, rfl, h⟩⟩
theorem spGl_iff' (g : Nat → Nat → Nat) (a f : Nat) (v : Value) : SpGl g #[.agg #[.float .f64 a, .float .f64 f]] v ↔ isFl (g a f) v := spGl_iff g a f v

set_option maxHeartbeats 4000000 in
theorem cross_c (a f : Nat) (lat : Int) (w : World) : Calls Tryd.prog 52 #[globeV a f, .int .i64 lat] w (FlR (crossP a f lat) w) := by
  unfold crossP
  go_enter Tryd.func52, Tryd.ntmps52
  go_wp2_with (first | (go_at_call 33; refine (sin_c _ _).mono ?_; rintro e w' ⟨rfl, hx⟩))
  obtain ⟨hb1, hw0⟩ := ext1 hx
  clear hx
  refine wp_region_all (fun g args v => (g = 59 ∧ SpGl (fun _ f => eccP f) args v) ∨ (g = 35 ∧ SpOne fsqrt args v)) (by kernel_rfl) (by kernel_rfl) ?_
  repeat (first
    | (refine wpR_op rfl (fun w1 hw K hK => ?_); have c1 := (hb1.ext hw.of_drew).cell; go_simp; refine hK _ ?_; clear hK K c1 hw w1)
    | (refine wpR_op rfl (fun w1 hw K hK => ?_); go_simp; refine rel_fl rfl ?_; intro r hr; refine hK _ ?_; clear hK K hw w1)
    | (refine wpR_op rfl (fun w1 hw K hK => ?_); go_simp; refine rel_call (FlR.call (ecc_c a f _)) (fun v => ?_) (fun v hv => ?_); (simp [spGl_iff']); obtain ⟨r, rfl, hr⟩ := hv; refine hK _ ?_; clear hK K hw w1)
    | (refine wpR_op rfl (fun w1 hw K hK => ?_); go_simp; refine rel_call (FlR.call (sqrt_c _ _)) (fun v => ?_) (fun v hv => ?_); (simp [spOne_iff]); obtain ⟨r, rfl, hr⟩ := hv; refine hK _ ?_; clear hK K hw w1))
  refine wpR_nil ?_
  intro w1 hx1 _
  replace hw0 := hw0.trans hx1.of_drew
  go_wp2_with fail
  go_ret
  exact ⟨_, rfl, by simp only [*, fbin], hw0⟩

set_option maxHeartbeats 4000000 in
theorem crossOf_c (a f : Nat) (lat : Int) (w : World) : Calls Tryd.prog 22 #[globeV a f, .int .i64 lat] w (FlR (crossP a f lat) w) := by
  unfold crossP
  go_enter Tryd.func22, Tryd.ntmps22
  go_wp2_with (first
    | (go_at_call 16; refine (sincos_c _ _).mono ?_; rintro e w' ⟨rfl, rfl⟩)
    | (go_at_call 15; refine (squareOf_c a f _).mono ?_; rintro e w2 ⟨r2, rfl, hr2, hx⟩; obtain ⟨hb1, hw0⟩ := ext1 hx)
    | (with_reducible refine upon_fl rfl ?_; intro r n hr))
  refine wp_region_all (fun g args v => (g = 24 ∧ SpTri (fun x y z => fsub x (fmul y z)) args v) ∨ (g = 35 ∧ SpOne fsqrt args v)) (by kernel_rfl) (by kernel_rfl) ?_
  repeat (first
    | (refine wpR_op rfl (fun w1 hw K hK => ?_); have c1 := ((hb1.drewN _).ext hw.of_drew).cell; go_simp; refine hK _ ?_; clear hK K c1 hw w1)
    | (refine wpR_op rfl (fun w1 hw K hK => ?_); go_simp; refine rel_fl rfl ?_; intro r hr; refine hK _ ?_; clear hK K hw w1)
    | (refine wpR_op rfl (fun w1 hw K hK => ?_); go_simp; refine rel_call (FlR.call (less_c _ _ _ _)) (fun v => ?_) (fun v hv => ?_); (simp [spTri_iff]); obtain ⟨r, rfl, hr⟩ := hv; refine hK _ ?_; clear hK K hw w1)
    | (refine wpR_op rfl (fun w1 hw K hK => ?_); go_simp; refine rel_call (FlR.call (sqrt_c _ _)) (fun v => ?_) (fun v hv => ?_); (simp [spOne_iff]); obtain ⟨r, rfl, hr⟩ := hv; refine hK _ ?_; clear hK K hw w1))
  refine wpR_nil ?_
  intro w1 hx1 _
  replace hw0 := (hw0.drewN _).trans hx1.of_drew
  go_wp2_with fail
  go_ret
  exact ⟨_, rfl, by simp only [*, fbin], hw0⟩
end Go.Proofs.YtcppgbhjbmfldaaDoor

/- Walks: the globes that are known by name; a globe turned into the program's. -/
namespace Go.Proofs.YtcppgbhjbmfldaaDoor
open Go.RowKit Go.Fp Go.Rel
set_option maxRecDepth 20000

abbrev sWgs : ByteArray := { data := #[119, 103, 115, 56, 52] }
abbrev sGrs : ByteArray := { data := #[103, 114, 115, 56, 48] }
abbrev sBes : ByteArray := { data := #[98, 101, 115, 115, 101, 108] }
abbrev sAir : ByteArray := { data := #[97, 105, 114, 121] }
abbrev sBal : ByteArray := { data := #[98, 97, 108, 108] }

/-- what a name stands for: half the axis, the flattening, the error's number -/
inductive KnownG : ByteArray → Nat → Nat → Int → Prop
  | wgs : KnownG sWgs 4708606483430899712 4569877477558837545 0
  | grs : KnownG sGrs 4708606483430899712 4569877477596733701 0
  | bes : KnownG sBes 4708605689028379935 4569854332699817238 0
  | air : KnownG sAir 4708605867528294498 4569849899622835569 0
  | bal : KnownG sBal 4708598820135501824 0 0
  | not {s : ByteArray} (h1 : (s.toList == [119, 103, 115, 56, 52]) = false) (h2 : (s.toList == [103, 114, 115, 56, 48]) = false) (h3 : (s.toList == [98, 101, 115, 115, 101, 108]) = false) (h4 : (s.toList == [97, 105, 114, 121]) = false) (h5 : (s.toList == [98, 97, 108, 108]) = false) : KnownG s 0 0 5
theorem ball_c (a f : Nat) (w : World) : Calls Tryd.prog 8 #[globeV a f] w (ExR (globeV a f) w) := by
  go_enter Tryd.func8, Tryd.ntmps8
  go_wp2
  exact bodyPost_ret (v := globeV a f) (by simp [results, Tryd.results8, go_sem]) rfl ⟨rfl, by repeat (first | exact Ext.refl _ | refine Ext.drew ?_ | refine Ext.alloc ?_ _ | refine Ext.setCell ?_ (by simp) _)⟩
end Go.Proofs.YtcppgbhjbmfldaaDoor

/- Walks: signed angles, the angle of a point as an integer, the same vector. -/
namespace Go.Proofs.YtcppgbhjbmfldaaDoor
open Go.RowKit Go.Fp Go.Rel
set_option maxRecDepth 20000

/-- an angle between half a turn back and half a turn -/
def signP (a : Int) : Int := if 180000000000 < normP a then normP a - 360000000000 else normP a
theorem norm_range (a : Int) : 0 ≤ normP a ∧ normP a < 360000000000 := by
  unfold normP
  omega

theorem signed_c (a : Int) (w : World) : Calls Tryd.prog 30 #[.int .i64 a] w (ExR (.int .i64 (signP a)) w) := by
  obtain ⟨n1, n2⟩ := norm_range a
  have HN := Lib.hid (norm_c a)
  unfold signP
  generalize normP a = n at *
  by_cases h : 180000000000 < n
  · rw [if_pos h]
    go_enter Tryd.func30, Tryd.ntmps30
    go_wp2_with (first | (go_at_call 31; refine (HN.out _).mono ?_; rintro e w' ⟨rfl, rfl⟩))
    go_ret
    exact ⟨rfl, Ext.refl _⟩
  · rw [if_neg h]
    go_enter Tryd.func30, Tryd.ntmps30
    go_wp2_with (first | (go_at_call 31; refine (HN.out _).mono ?_; rintro e w' ⟨rfl, rfl⟩))
    go_ret
    exact ⟨rfl, Ext.refl _⟩
theorem signedAngle_c (a : Int) (w : World) : Calls Tryd.prog 45 #[.int .i64 a] w (ExR (.int .i64 (signP a)) w) := by
  obtain ⟨n1, n2⟩ := norm_range a
  have HN := Lib.hid (normOf_c a)
  unfold signP
  generalize normP a = n at *
  by_cases h : 180000000000 < n
  · rw [if_pos h]
    have h2 : 360000000000 < 2 * n := by omega
    go_enter Tryd.func45, Tryd.ntmps45
    go_wp2_with (first | (go_at_call 19; refine (HN.out _).mono ?_; rintro e w' ⟨rfl, rfl⟩))
    go_ret
    exact ⟨rfl, Ext.refl _⟩
  · rw [if_neg h]
    have h2 : ¬ 360000000000 < 2 * n := by omega
    go_enter Tryd.func45, Tryd.ntmps45
    go_wp2_with (first | (go_at_call 19; refine (HN.out _).mono ?_; rintro e w' ⟨rfl, rfl⟩))
    go_ret
    exact ⟨rfl, Ext.refl _⟩

/-- the angle of a point, signed -/
def angS (Y X : Nat) : Int := signP (angleP Y X).1
abbrev vecV (x y z : Nat) : Value := .agg #[.float .f64 x, .float .f64 y, .float .f64 z]
end Go.Proofs.YtcppgbhjbmfldaaDoor

/- Walks: the vector of a place on a globe, the program's and the reference's. -/
namespace Go.Proofs.YtcppgbhjbmfldaaDoor
open Go.RowKit Go.Fp Go.Rel
set_option maxRecDepth 20000

abbrev cLo : Nat := 13935002356576944128
abbrev cHi : Nat := 4741671816366391296
abbrev cOne : Nat := 4607182418800017408
def vecD (a f : Nat) (lat : Int) (high : Nat) : Nat := fmul (fadd (crossP a f lat) (can high)) (can (cosP lat))
def vecZ (a f : Nat) (lat : Int) (high : Nat) : Nat := fmul (fadd (fmul (crossP a f lat) (fsub (can cOne) (eccP f))) (can high)) (can (sinP lat))

/-- the vector of a place, or the error's number -/
inductive VecIs (a f : Nat) (lon lat : Int) (high : Nat) : Nat → Nat → Nat → Int → Prop
  | shape (h : okG a f = false) : VecIs a f lon lat high 0 0 0 3
  | range1 (h : okG a f = true) (h1 : 90000000000 < lat) : VecIs a f lon lat high 0 0 0 4
  | range2 (h : okG a f = true) (h1 : lat ≤ 90000000000) (h2 : lat < -90000000000) : VecIs a f lon lat high 0 0 0 4
  | range3 (h : okG a f = true) (h1 : lat ≤ 90000000000) (h2 : -90000000000 ≤ lat) (h3 : btw high cLo cHi = false) : VecIs a f lon lat high 0 0 0 4
  | ok (h : okG a f = true) (h1 : lat ≤ 90000000000) (h2 : -90000000000 ≤ lat) (h3 : btw high cLo cHi = true) :
    VecIs a f lon lat high (fmul (vecD a f lat high) (can (cosP lon))) (fmul (vecD a f lat high) (can (sinP lon))) (vecZ a f lat high) 0
abbrev placeV (lon lat : Int) : Value := .agg #[.int .i64 lon, .int .i64 lat]
def VecR (A : Nat → Addr) (X Y Z : Nat) (k : Int) (w : World) (e : Ending) (w' : World) : Prop :=
  ∃ x y z v, e = .returned (.tuple #[vecV x y z, v]) ∧ can x = X ∧ can y = Y ∧ can z = Z ∧ ErrOf A k v ∧ Ext w w'

theorem can0 : can 0 = 0 := can_of_not (by decide +kernel)

/-- of a call with one integer: what it hands back -/
def SpInt (f : Int → Value) (args : Array Value) (v : Value) : Prop := ∃ a : Int, args = #[.int .i64 a] ∧ v = f a
/-- why a place or a height is refused -/
def RangeV (lat : Int) (high : Nat) : Prop := 90000000000 < lat ∨ (lat ≤ 90000000000 ∧ lat < -90000000000) ∨ (lat ≤ 90000000000 ∧ -90000000000 ≤ lat ∧ btw high cLo cHi = false)

end Go.Proofs.YtcppgbhjbmfldaaDoor

/- Walks of package path, and of the reference beside it: third, twice, reduced. -/
namespace Go.Proofs.YtcppgbhjbmfldaaDoor
open Go.RowKit Go.Fp Go.Rel
set_option maxRecDepth 20000

abbrev c16 : Nat := 4625196817309499392
abbrev c4 : Nat := 4616189618054758400
abbrev c3 : Nat := 4613937818241073152
abbrev c2 : Nat := 4611686018427387904
abbrev c1 : Nat := 4607182418800017408
def thirdP (f ca : Nat) : Nat := fmul (fmul (fdiv f (can c16)) ca) (fadd (can c4) (fmul f (fsub (can c4) (fmul (can c3) ca))))
def twiceP (x : Nat) : Nat := fsub (fmul (can c2) (fmul x x)) (can c1)

/-- reduced latitude: cosine and sine -/
def redX (lat : Int) : Nat := can (cosP lat)
def redY (f : Nat) (lat : Int) : Nat := fmul (fsub (can c1) (can f)) (can (sinP lat))
def redD (f : Nat) (lat : Int) : Nat := fsqrt (fadd (fmul (redX lat) (redX lat)) (fmul (redY f lat) (redY f lat)))
def RedR (f : Nat) (lat : Int) (w : World) (e : Ending) (w' : World) : Prop := ∃ c s, e = .returned (.tuple #[.float .f64 c, .float .f64 s]) ∧ can c = fdiv (redX lat) (redD f lat) ∧ can s = fdiv (redY f lat) (redD f lat) ∧ Ext w w'
def SpIntN (f : Int → Value) (args : Array Value) (v : Value) : Prop := ∃ a : Int, args = #[.int .i64 a] ∧ v = f a
theorem spIntN_iff (f : Int → Value) (a : Int) (v : Value) : SpIntN f #[.int .i64 a] v ↔ v = f a := by
  unfold SpIntN
  exact ⟨fun ⟨_, h, k⟩ => by simp at h; obtain rfl := h; exact k, fun h => ⟨_, rfl, h⟩⟩
theorem bareN {w w' v : World} (h : Ext w' v) (ho : w'.os = w.os) (ht : w'.tape = w.tape) (hp : w'.output = w.output) (hh : w'.heap = w.heap) : Ext w v :=
  ⟨h.os.trans ho, h.tape.trans ht, h.output.trans hp, by rw [← hh]; exact h.size, fun k hk => by rw [← hh]; exact h.block k (by rw [hh]; exact hk)⟩

end Go.Proofs.YtcppgbhjbmfldaaDoor

/- Walks: the reference's third, reduced; package path's off, the reference's off. -/
namespace Go.Proofs.YtcppgbhjbmfldaaDoor
open Go.RowKit Go.Fp Go.Rel
set_option maxRecDepth 20000

end Go.Proofs.YtcppgbhjbmfldaaDoor

/- Walks: what is taken off the arc: package path's off, the reference's. -/
namespace Go.Proofs.YtcppgbhjbmfldaaDoor
open Go.RowKit Go.Fp Go.Rel
set_option maxRecDepth 20000

abbrev c6 : Nat := 4618441417868443648
def offP (q ss cs cm : Nat) : Nat :=
  fmul (fmul q ss) (fadd cm (fmul (fdiv q (can c4)) (fsub (fmul cs (twiceP cm))
    (fmul (fmul (fdiv q (can c6)) cm) (fmul (fsub (fmul (can c4) (fmul ss ss)) (can c3)) (fsub (fmul (can c4) (fmul cm cm)) (can c3)))))))

end Go.Proofs.YtcppgbhjbmfldaaDoor

/- Walks: the two series of a geodesic; the difference of longitudes: package path's, the reference's. -/
namespace Go.Proofs.YtcppgbhjbmfldaaDoor
open Go.RowKit Go.Fp Go.Rel
set_option maxRecDepth 20000

def uP (f ca : Nat) : Nat := fdiv (fmul ca (eccP f)) (fsub (can c1) (eccP f))
def ofP (u : Nat) : Nat := fadd (can c1) (fmul (fdiv u (can 4670232813583204352)) (fadd (can 4661225614328463360) (fmul u (fsub (fmul u (fsub (can 4644337115725824000) (fmul (can 4640361281679785984) u))) (can 4649966615260037120)))))
def ofQ (u : Nat) : Nat := fmul (fdiv u (can 4652218415073722368)) (fadd (can 4643211215818981376) (fmul u (fsub (fmul u (fsub (can 4634907704006017024) (fmul (can 4631811479262199808) u))) (can 4638707616191610880))))
def OfR (f ca : Nat) (w : World) (e : Ending) (w' : World) : Prop := ∃ p q, e = .returned (.agg #[.float .f64 p, .float .f64 q]) ∧ can p = ofP (uP f ca) ∧ can q = ofQ (uP f ca) ∧ Ext w w'
def OfS (f ca : Nat) (w : World) (e : Ending) (w' : World) : Prop := ∃ p q, e = .returned (.tuple #[.float .f64 p, .float .f64 q]) ∧ can p = ofP (uP f ca) ∧ can q = ofQ (uP f ca) ∧ Ext w w'

end Go.Proofs.YtcppgbhjbmfldaaDoor

/- Walks: the difference of longitudes on a globe: package path's, the reference's. -/
namespace Go.Proofs.YtcppgbhjbmfldaaDoor
open Go.RowKit Go.Fp Go.Rel
set_option maxRecDepth 20000

def longerP (f c sa o ss cs cm : Nat) : Nat := fmul (fmul (fmul (fsub (can c1) c) f) sa) (fadd o (fmul (fmul c ss) (fadd cm (fmul (fmul c cs) (twiceP cm)))))

end Go.Proofs.YtcppgbhjbmfldaaDoor

/- The model's entries that make a number whole. -/
namespace Go.Proofs.YtcppgbhjbmfldaaDoor
open Go.RowKit Go.Fp Go.Rel
set_option maxRecDepth 20000

/-- a number made whole -/
def intP (way : Ieee.Toward) (x : Nat) : Nat := if isNan x then QN else D.write ((D.read x).integral way)

theorem int_run {P : Program} (W : World) (nm : String) (way : Ieee.Toward) (x : Nat) (hx : isNan x = false) :
    (Extern.MathFloor.toIntegral nm way #[.float .f64 x]).run P W = .ok (.float .f64 (D.write ((D.read x).integral way))) W := by
  unfold isNan at hx
  show (match D.read x with
    | .nan s t =>
      if FloatKind.f64.format.quiet t = t then pure (Value.float .f64 x) else do
      let kept ← choose (.extern "math.Floor,Ceil,Trunc,RoundToEven.signallingNaN kept" 2)
      pure (.float .f64 (if kept == 1 then x else FloatKind.f64.encode (.nan s (FloatKind.f64.format.quiet t))))
    | d => pure (.float .f64 (FloatKind.f64.encode (d.integral way))) : Sem Value).run P W = _
  cases e : D.read x with
  | nan s t => rw [e] at hx; simp [Ieee.Datum.isNaN] at hx
  | infinity s => rfl
  | number s m i => rfl
theorem isNan_word_nan (s : Bool) {q : Nat} (h0 : 0 < q) (h : q < 2 ^ 52) : isNan (D.word s (D.infRung + q)) = true := by
  have e1 : D.signWeight = 2 ^ 63 := by decide +kernel
  have e2 : D.infRung = 0x7ff0000000000000 := by decide +kernel
  have e3 : D.binade = 2 ^ 52 := by decide +kernel
  have hm : D.word s (D.infRung + q) % 2 ^ 63 = 0x7ff0000000000000 + q := by
    unfold Ieee.Format.word
    cases s
    · simp only [e1, e2, Bool.false_eq_true, if_false]; omega
    · simp only [e1, e2, if_true]; omega
  unfold isNan Ieee.Format.read
  simp only [e1, e2, e3] at hm ⊢
  rw [hm, if_neg (by omega), if_neg (by omega), if_neg (by omega)]
  rfl
theorem quiet_ne (t : Nat) : 0 < (FloatKind.f64.format.quiet t) % 2 ^ 52 := by
  have h : FloatKind.f64.format.quiet t = t ||| 2 ^ 51 := rfl
  have hb : ((t ||| 2 ^ 51) % 2 ^ 52).testBit 51 = true := by
    have h51 : Nat.testBit (2 ^ 51) 51 = true := by decide
    rw [Nat.testBit_mod_two_pow, Nat.testBit_or, h51]
    simp
  rw [h]
  rcases Nat.eq_zero_or_pos ((t ||| 2 ^ 51) % 2 ^ 52) with e | e
  · rw [e] at hb; simp at hb
  · exact e
theorem isNan_quiet (s : Bool) (t : Nat) : isNan (D.write (.nan s (FloatKind.f64.format.quiet t))) = true := by
  have e3 : D.binade = 2 ^ 52 := by decide +kernel
  show isNan (D.word s (D.infRung + (FloatKind.f64.format.quiet t) % D.binade)) = true
  rw [e3]
  exact isNan_word_nan s (quiet_ne t) (Nat.mod_lt _ (by decide))
theorem int_run_nan {P : Program} (W : World) (nm : String) (way : Ieee.Toward) (x : Nat) (hx : isNan x = true) :
    ∃ r n, (Extern.MathFloor.toIntegral nm way #[.float .f64 x]).run P W = .ok (.float .f64 r) (W.drewN n) ∧ isNan r = true := by
  obtain ⟨s, t, e⟩ := read_nan hx
  have h0 : Extern.MathFloor.toIntegral nm way #[.float .f64 x] = (if FloatKind.f64.format.quiet t = t then pure (Value.float .f64 x) else do
      let kept ← choose (.extern "math.Floor,Ceil,Trunc,RoundToEven.signallingNaN kept" 2)
      pure (.float .f64 (if kept == 1 then x else FloatKind.f64.encode (.nan s (FloatKind.f64.format.quiet t))))) := by
    show (match D.read x with
      | .nan s t =>
        if FloatKind.f64.format.quiet t = t then pure (Value.float .f64 x) else do
        let kept ← choose (.extern "math.Floor,Ceil,Trunc,RoundToEven.signallingNaN kept" 2)
        pure (.float .f64 (if kept == 1 then x else FloatKind.f64.encode (.nan s (FloatKind.f64.format.quiet t))))
      | d => pure (.float .f64 (FloatKind.f64.encode (d.integral way))) : Sem Value) = _
    rw [e]
  rw [h0]
  by_cases hq : FloatKind.f64.format.quiet t = t
  · rw [if_pos hq]
    exact ⟨x, 0, rfl, hx⟩
  · rw [if_neg hq]
    refine ⟨_, 1, rfl, ?_⟩
    split
    · exact hx
    · exact isNan_quiet s t
/-- a whole number of a number, or no number -/
theorem int_any {P : Program} (W : World) (nm : String) (way : Ieee.Toward) (x : Nat) :
    ∃ r n, (Extern.MathFloor.toIntegral nm way #[.float .f64 x]).run P W = .ok (.float .f64 r) (W.drewN n) ∧ (isNan x = true ∧ isNan r = true ∨ isNan x = false ∧ r = D.write ((D.read x).integral way)) := by
  cases hx : isNan x
  · exact ⟨_, 0, int_run W nm way x hx, .inr ⟨rfl, rfl⟩⟩
  · obtain ⟨r, n, h1, h2⟩ := int_run_nan (P := P) W nm way x hx
    exact ⟨r, n, h1, .inl ⟨rfl, h2⟩⟩
end Go.Proofs.YtcppgbhjbmfldaaDoor

/- Walks: math.Floor; how RoundToEven is met. -/
namespace Go.Proofs.YtcppgbhjbmfldaaDoor
open Go.RowKit Go.Fp Go.Rel
set_option maxRecDepth 20000

def IntR (way : Ieee.Toward) (x r : Nat) : Prop := isNan x = true ∧ isNan r = true ∨ isNan x = false ∧ r = D.write ((D.read x).integral way)
theorem upon_int {P : Program} {o : Oper} {a : Act} {K : Act → World → Prop} {Q : Exit → Act → World → Prop} {W : World} {f : FuncId} {x : Nat} {nm : String} {way : Ieee.Toward} (he : Entry P f (Extern.MathFloor.toIntegral nm way))
    (h : ∀ r n, IntR way x r → o.upon P a K Q (.ok (.value (.float .f64 r)) (W.drewN n))) : o.upon P a K Q ((callFunc f #[.float .f64 x]).run P W) := by
  rw [he]
  obtain ⟨r, n, e, hr⟩ := int_any (P := P) W nm way x
  rw [e]
  exact h r n hr
theorem floor_entry : Entry Tryd.prog 77 (Extern.MathFloor.toIntegral "math.archFloor" .down) := fun args w => run_callFunc_extern Tryd.func77 (by kernel_rfl) (by kernel_rfl) (by kernel_rfl) (by kernel_rfl) args w
set_option maxHeartbeats 1000000 in
theorem floor_c (x : Nat) (w : World) : Calls Tryd.prog 72 #[.float .f64 x] w fun e w' => ∃ r, e = .returned (.float .f64 r) ∧ IntR .down x r ∧ Ext w w' := by
  go_enter Tryd.func72, Tryd.ntmps72
  go_wp2_with (first | (with_reducible refine upon_int floor_entry ?_; intro r n hr))
  go_ret
  exact ⟨_, rfl, hr, (Ext.refl _).drewN _⟩
end Go.Proofs.YtcppgbhjbmfldaaDoor
