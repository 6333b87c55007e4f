/- The numbers of a series: what they are. -/
import Derived.Test.YtmmifmlkhmdgaaaGreatDoorZG
import Derived.Test.YtmmifmlkhmdgaaaGreatDoorZE
import Derived.Test.YtmmifmlkhmdgaaaGreatDoorZA
namespace Go.Proofs.YtmmifmlkhmdgaaaGreatDoor
open Go.RowKit Go.Fp Go.Rel
set_option maxRecDepth 20000

abbrev cA1 : List Nat := [4602678819172646912, 13827552055903212885, 4599301119452119040, 4597374579611521661]
abbrev cA2 : List Nat := [4598550519514223957, 13826951575952896819, 4600639689341365271]
abbrev cA3 : List Nat := [4598250279539065924, 13828173981566040240]
abbrev cA4 : Nat := 4599207406156301484
abbrev cB1 : List Nat := [4602678819172646912, 13827552055903212885, 4600614669343435435, 13791923578851126295]
abbrev cB2 : List Nat := [4581662020911584597, 4589468260265693457, 13822510526320350913]
abbrev cB3 : List Nat := [4585264900613480994, 13809880788793911511]
abbrev cB4 : Nat := 4583515287901101742
def tabA (n : Nat) : List Nat := if n = 4 then cA1 else if n = 3 then cA2 else cA3
def tabB (n : Nat) : List Nat := if n = 4 then cB1 else if n = 3 then cB2 else cB3
def SpPoly (N : Nat) (T : Nat → List Nat) (args : Array Value) (v : Value) : Prop := ∃ (g n c : Nat) (p : Value), args = #[.slice (some ⟨g, 0, none⟩) n c, p] ∧ isFl (polyS N (T n) (n - 1)) v
theorem spPoly_iff (N : Nat) (T : Nat → List Nat) (g n c : Nat) (p v : Value) : SpPoly N T #[.slice (some ⟨g, 0, none⟩) n c, p] v ↔ isFl (polyS N (T n) (n - 1)) v := by
  unfold SpPoly
  exact ⟨fun ⟨_, _, _, _, h, k⟩ => by simp at h; obtain ⟨⟨rfl, rfl, rfl⟩, rfl⟩ := h; exact k, fun h => ⟨_, _, _, _, rfl, h⟩⟩
theorem relD_fl {P : Program} {F : FuncId → Array Value → Value → Prop} {R : Value → World → Prop} {W : World} {K : Value → Prop} {t : TypeId} {op : BinOp} {x y : Nat} (hop : isArith op = true)
    (h : ∀ r, can r = fbin op (can x) (can y) → K (.float .f64 r)) (hR : ∀ r w, R (.float .f64 r) w) : relUponD P F R W K (((binOp op t (.float .f64 x) (.float .f64 y)).run P W).andThen fun v w' => .ok (.value v) w') := by
  obtain ⟨r, n, e, hr⟩ := run_fl (P := P) W hop x y t
  rw [e]
  exact ⟨(Ext.refl _).drewN _, hR _ _, h r hr⟩
theorem relD_call {P : Program} {F : FuncId → Array Value → Value → Prop} {R : Value → World → Prop} {W : World} {K : Value → Prop} {f : FuncId} {args : Array Value} {S : Value → Prop}
    (hc : Calls P f args W (fun e w' => ∃ v, e = .returned v ∧ S v ∧ Ext W w')) (hF : ∀ v, S v ↔ F f args v) (hR : ∀ v w, S v → R v w) (h : ∀ v, S v → K v) : relUponD P F R W K (.ok (.enter f args) W) :=
  ⟨Ext.refl _, hc.mono fun _ _ ⟨v, he, hS, hx⟩ => ⟨v, he, (hF v).1 hS, hR _ _ hS, hx⟩, fun v hv => h v ((hF v).2 hv)⟩

/-- the third flattening, and its powers -/
def nS (f : Nat) : Nat := fdiv (can f) (fsub (can 4611686018427387904) (can f))
def n2S (f : Nat) : Nat := fmul (nS f) (nS f)
def n3S (f : Nat) : Nat := fmul (n2S f) (nS f)
def n4S (f : Nat) : Nat := fmul (n2S f) (n2S f)
/-- the radius of the series, and both its rows -/
def radS (a f : Nat) : Nat := fmul (fdiv (can a) (fadd (can 4607182418800017408) (nS f))) (fadd (fadd (can 4607182418800017408) (fdiv (n2S f) (can 4616189618054758400))) (fdiv (n4S f) (can 4634204016564240384)))
def rowS (T : Nat → List Nat) (c f : Nat) : Nat → Nat
  | 0 => fmul (nS f) (polyS (nS f) (T 4) 3)
  | 1 => fmul (n2S f) (polyS (nS f) (T 3) 2)
  | 2 => fmul (n3S f) (polyS (nS f) (T 2) 1)
  | _ => fmul (n4S f) (can c)
def SerR (a f : Nat) (w : World) (e : Ending) (w' : World) : Prop := ∃ r y0 y1 y2 y3 x0 x1 x2 x3, e = .returned (.tuple #[.float .f64 r, .agg #[.float .f64 y0, .float .f64 y1, .float .f64 y2, .float .f64 y3], .agg #[.float .f64 x0, .float .f64 x1, .float .f64 x2, .float .f64 x3], .nilIface]) ∧ can r = radS a f ∧
  (can y0 = rowS tabA cA4 f 0 ∧ can y1 = rowS tabA cA4 f 1 ∧ can y2 = rowS tabA cA4 f 2 ∧ can y3 = rowS tabA cA4 f 3) ∧ (can x0 = rowS tabB cB4 f 0 ∧ can x1 = rowS tabB cB4 f 1 ∧ can x2 = rowS tabB cB4 f 2 ∧ can x3 = rowS tabB cB4 f 3) ∧ Ext w w'

end Go.Proofs.YtmmifmlkhmdgaaaGreatDoor
