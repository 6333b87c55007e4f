/- Walk: where one comes to along a geodesic, package path's. -/
import Derived.Test.YtfhpnkmpjijebaaDoorZZ
import Derived.Deep.DeepCutAuto
import Derived.Deep.LoopGhost
namespace Go.Proofs.YtfhpnkmpjijebaaDoor
open Go.RowKit Go.Fp Go.Rel
set_option maxRecDepth 20000

theorem mf_look (first : Array Value) (cap : Array Value) (w : World) : (Instr.makeFunc (.func 30) first cap).run Tryd.prog w = .ok (.func (.func 30) first cap) w := rfl

/-- of the calls in the regions that draw their order: what they hand back -/
def SpAn (args : Array Value) (v : Value) : Prop := ∃ y x : Nat, args = #[.float .f64 y, .float .f64 x] ∧ v = .tuple #[.int .i64 (angleP (can y) (can x)).1, .bool (angleP (can y) (can x)).2]
theorem spAn_iff (y x : Nat) (v : Value) : SpAn #[.float .f64 y, .float .f64 x] v ↔ v = .tuple #[.int .i64 (angleP (can y) (can x)).1, .bool (angleP (can y) (can x)).2] := by
  unfold SpAn
  exact ⟨fun ⟨_, _, h, k⟩ => by simp at h; obtain ⟨rfl, rfl⟩ := h; exact k, fun h => ⟨_, _, rfl, h⟩⟩
theorem AnR.call {P : Program} {f : FuncId} {args : Array Value} {p : Int × Bool} {W : World} (h : Calls P f args W (AnR p W)) : Calls P f args W (fun e w' => ∃ u, e = .returned u ∧ u = .tuple #[.int .i64 p.1, .bool p.2] ∧ Ext W w') :=
  h.mono fun _ _ ⟨he, hx⟩ => ⟨_, he, rfl, hx⟩
def SpThird (args : Array Value) (v : Value) : Prop := ∃ a f c : Nat, args = #[globeV a f, .float .f64 c] ∧ isFl (thirdP (can f) (can c)) v
theorem spThird_iff (a f c : Nat) (v : Value) : SpThird #[globeV a f, .float .f64 c] v ↔ isFl (thirdP (can f) (can c)) v := by
  unfold SpThird
  exact ⟨fun ⟨_, _, _, h, k⟩ => by simp at h; obtain ⟨⟨rfl, rfl⟩, rfl⟩ := h; exact k, fun h => ⟨_, _, _, rfl, h⟩⟩
def SpLong (args : Array Value) (v : Value) : Prop := ∃ a f c sa o ss cs cm : Nat, args = #[globeV a f, .float .f64 c, .float .f64 sa, .float .f64 o, .float .f64 ss, .float .f64 cs, .float .f64 cm] ∧ isFl (longerP (can f) (can c) (can sa) (can o) (can ss) (can cs) (can cm)) v
theorem spLong_iff (a f c sa o ss cs cm : Nat) (v : Value) : SpLong #[globeV a f, .float .f64 c, .float .f64 sa, .float .f64 o, .float .f64 ss, .float .f64 cs, .float .f64 cm] v ↔ isFl (longerP (can f) (can c) (can sa) (can o) (can ss) (can cs) (can cm)) v := by
  unfold SpLong
  exact ⟨fun ⟨_, _, _, _, _, _, _, _, h, k⟩ => by simp at h; obtain ⟨⟨rfl, rfl⟩, rfl, rfl, rfl, rfl, rfl, rfl⟩ := h; exact k, fun h => ⟨_, _, _, _, _, _, _, _, rfl, h⟩⟩
def SpNear (args : Array Value) (v : Value) : Prop := ∃ x : Nat, args = #[.float .f64 x] ∧ v = .int .i64 (nearP (can x))
theorem spNear_iff (x : Nat) (v : Value) : SpNear #[.float .f64 x] v ↔ v = .int .i64 (nearP (can x)) := by
  unfold SpNear
  exact ⟨fun ⟨_, h, k⟩ => by simp at h; obtain rfl := h; exact k, fun h => ⟨_, rfl, h⟩⟩
theorem Bks.keepB {w w' : World} {n3 n4 n5 : Nat} (hk : ∀ n t c, n ≠ n3 → n ≠ n4 → n ≠ n5 → Blk w n t c → Blk w' n t c) : ∀ {l : List (Nat × TypeId × Array Value)} (_ : Bks w l) (_ : ∀ x ∈ l, x.1 ≠ n3 ∧ x.1 ≠ n4 ∧ x.1 ≠ n5), Bks w' l
  | [], _, _ => trivial
  | x :: _, h, hl => ⟨hk _ _ _ (hl x List.mem_cons_self).1 (hl x List.mem_cons_self).2.1 (hl x List.mem_cons_self).2.2 h.1, Bks.keepB hk h.2 (fun y hy => hl y (List.mem_cons_of_mem _ hy))⟩

end Go.Proofs.YtfhpnkmpjijebaaDoor

/- Walk: the geodesic between two places, the reference's. -/
namespace Go.Proofs.YtfhpnkmpjijebaaDoor
open Go.RowKit Go.Fp Go.Rel
set_option maxRecDepth 20000

theorem ext4 {w w' : World} {c1 c2 c3 c4 : Array Value} {t1 t2 t3 t4 : TypeId} (h : Ext ((((w.alloc (.cells c1 t1)).alloc (.cells c2 t2)).alloc (.cells c3 t3)).alloc (.cells c4 t4)) w') :
    Bks w' [(w.heap.size, t1, c1), (w.heap.size + 1, t2, c2), (w.heap.size + 1 + 1, t3, c3), (w.heap.size + 1 + 1 + 1, t4, c4)] ∧ Ext w w' := by
  obtain ⟨h4, hx⟩ := ext1 h
  rw [alloc_size, alloc_size, alloc_size] at h4
  obtain ⟨h1, h2, h3, hy⟩ := ext3 hx
  exact ⟨⟨h1, h2, h3, h4, trivial⟩, hy⟩
abbrev lineV (far : Nat) (o i : Int) : Value := .agg #[.float .f64 far, .int .i64 o, .int .i64 i]
def LineQ (FAR : Nat) (O I k : Int) (w : World) (e : Ending) (w' : World) : Prop := ∃ far, e = .returned (.tuple #[lineV far O I, .int .i64 k]) ∧ can far = FAR ∧ Ext w w'
def LineR (A : Nat → Addr) (FAR : Nat) (O I k : Int) (w : World) (e : Ending) (w' : World) : Prop := ∃ far v, e = .returned (.tuple #[lineV far O I, v]) ∧ can far = FAR ∧ ErrOf A k v ∧ Ext w w'
def SpNorm (f : Int → Int) (args : Array Value) (v : Value) : Prop := ∃ a : Int, args = #[.int .i64 a] ∧ v = .int .i64 (f a)
theorem spNorm_iff (f : Int → Int) (a : Int) (v : Value) : SpNorm f #[.int .i64 a] v ↔ v = .int .i64 (f a) := by
  unfold SpNorm
  exact ⟨fun ⟨_, h, k⟩ => by simp at h; obtain rfl := h; exact k, fun h => ⟨_, rfl, h⟩⟩
/-- a call that leaves the world as it is -/
theorem same_call {P : Program} {f : FuncId} {args : Array Value} {v : Value} {W : World} (h : Calls P f args W (fun e w' => e = .returned v ∧ W = w')) : Calls P f args W (fun e w' => ∃ u, e = .returned u ∧ u = v ∧ Ext W w') :=
  h.mono fun _ _ ⟨he, hx⟩ => ⟨_, he, rfl, by rw [← hx]; exact Ext.refl _⟩

end Go.Proofs.YtfhpnkmpjijebaaDoor
