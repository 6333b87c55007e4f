/- The walk of the statement FlatTo. -/
import Derived.Test.YtmmifmlkhmdgaaaGreatDoorBK
namespace Go.Proofs.YtmmifmlkhmdgaaaGreatDoor
open Go.RowKit Go.Fp Go.Rel
set_option maxRecDepth 20000

def isFlat (X Y : Nat) (v : Value) : Prop := ∃ x y, v = flatV x y ∧ can x = X ∧ can y = Y
theorem FlatQ.call {P : Program} {f : FuncId} {args : Array Value} {X Y : Nat} {W : World} (h : Calls P f args W (FlatQ X Y W)) : Calls P f args W (fun e w' => ∃ v, e = .returned v ∧ isFlat X Y v ∧ Ext W w') :=
  h.mono fun _ _ ⟨x, y, he, hx, hy, hw⟩ => ⟨_, he, ⟨x, y, rfl, hx, hy⟩, hw⟩
/-- the cells of a paper and of a place -/
theorem cellsP {w' : World} {n a f sc : Nat} {s : ByteArray} {mid r t : Int} {tG tP : TypeId} (h : Bks w' [(n, tG, #[Value.float .f64 a, Value.float .f64 f, Value.string s, Value.int .i64 mid, Value.float .f64 sc]), (n + 1, tP, #[Value.int .i64 r, Value.int .i64 t])]) :
    w'.cell? ⟨n, 0, none⟩ = some (.float .f64 a) ∧ w'.cell? ⟨n, 1, none⟩ = some (.float .f64 f) ∧ w'.cell? ⟨n, 2, none⟩ = some (.string s) ∧ w'.cell? ⟨n, 3, none⟩ = some (.int .i64 mid) ∧ w'.cell? ⟨n, 4, none⟩ = some (.float .f64 sc) ∧ w'.cell? ⟨n + 1, 0, none⟩ = some (.int .i64 r) ∧ w'.cell? ⟨n + 1, 1, none⟩ = some (.int .i64 t) :=
  ⟨h.1.cell 0, h.1.cell 1, h.1.cell 2, h.1.cell 3, h.1.cell 4, h.2.1.cell 0, h.2.1.cell 1⟩
theorem chkP_cases (g : Bool) (n sc : Nat) (lat : Int) : 0 < chkP (papP g n sc) n lat ∨ chkP (papP g n sc) n lat = 0 ∧ n ≠ 3 := by
  rcases papP_cases g n sc with ⟨h, h3⟩ | h | h
  · rw [h]
    unfold chkP
    rw [if_neg (by decide)]
    split
    · exact .inl (by decide)
    · split
      · exact .inl (by decide)
      · exact .inr ⟨rfl, h3⟩
  · rw [h]; exact .inl (by unfold chkP; rw [if_pos (by decide)]; decide)
  · rw [h]; exact .inl (by unfold chkP; rw [if_pos (by decide)]; decide)
end Go.Proofs.YtmmifmlkhmdgaaaGreatDoor
