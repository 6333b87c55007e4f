/- Walk: grid.Sheets, where there are sheets. -/
import Derived.Test.YtdgaeodkffhciaaDoorS2
import Derived.IntWalk
namespace Go.Proofs.YtdgaeodkffhciaaDoor
open Go.RowKit Go.Rel
set_option maxRecDepth 20000

theorem infoSheet : (Tryd.prog.info? 44).map (fun i => (i.zero, i.size, i.bytes)) = some (some (.agg #[.int .i64 0, .int .i64 0, .int .i64 0, .int .i64 0, .int .i64 0, .int .i64 0]), 6, 48) := by kernel_rfl
theorem mul_small {r R C : Nat} {q : Int} (h : r < R) (hq : (C : Int) * (R : Int) ≤ q) : ((r * C + C : Nat) : Int) ≤ q := by
  have : r * C + C ≤ R * C := by rw [← Nat.succ_mul]; exact Nat.mul_le_mul_right _ h
  have h2 : ((R * C : Nat) : Int) = (C : Int) * (R : Int) := by rw [Int.natCast_mul, Int.mul_comm]
  omega
theorem cells_new (w : World) (s : Sh) (t : TypeId) : ∀ (j : Nat) (u : Value), s.cells[j]? = some u → (w.alloc (.cells s.cells.toArray t)).cell? ((⟨w.heap.size, 0, none⟩ : Addr).add j) = some u := fun j u hj => by
  have hadd : (⟨w.heap.size, 0, none⟩ : Addr).add j = ⟨w.heap.size, j, none⟩ := by unfold Addr.add; split <;> simp_all
  rw [hadd, (Blk.new w _ t).cell j]
  simpa using hj
theorem cells_one (s : Sh) : ∀ u ∈ s.cells, u.oneCell' = true := by simp [Sh.cells, Value.oneCell']

set_option maxHeartbeats 40000000 in
theorem sheets_ok (lx ly hx hy wide high lap : Int) (w : World) (hb : boxP lx ly hx hy = true) (hs : okS wide high lap = true) (hm : howMany lx ly hx hy wide high ≤ 4000) :
    Calls Tryd.prog 15 #[boxV lx ly hx hy, .int .i64 wide, .int .i64 high, .int .i64 lap] w fun e w' => ∃ ad n cap, e = .returned (.tuple #[.slice ad n cap, .nilIface]) ∧
      SheetsAt w' (.slice ad n cap) (rows (many lx hx wide) (sheetAt lx ly wide high lap) (many ly hy high)) ∧ Ext w w' := by
  obtain ⟨⟨x1, x2⟩, ⟨y1, y2⟩, ⟨u1, u2⟩, ⟨v1, v2⟩, xh, yh⟩ := box_in hb
  obtain ⟨s1, s2, s3, s4, s5, s6⟩ := okS_true hs
  obtain ⟨p1, p2⟩ := many_le xh (show 0 < wide by omega)
  obtain ⟨p3, p4⟩ := many_le yh (show 0 < high by omega)
  obtain ⟨e1, f1⟩ := many_spec xh (show 0 < wide by omega)
  obtain ⟨e2, f2⟩ := many_spec yh (show 0 < high by omega)
  have hq : (many lx hx wide : Int) * (many ly hy high : Int) ≤ 4000 := by
    have : (howMany lx ly hx hy wide high : Int) = (many ly hy high : Int) * (many lx hx wide : Int) := by unfold howMany; rw [Int.natCast_mul]
    rw [Int.mul_comm]; omega
  have hq0 : 0 ≤ (many lx hx wide : Int) * (many ly hy high : Int) := Int.mul_nonneg (by omega) (by omega)
  generalize many lx hx wide = C at *
  generalize many ly hy high = R at *
  have c0 : (C : Int) ≤ 33554433 := by omega
  have r0 : (R : Int) ≤ 33554433 := by omega
  replace e1 := e1.symm
  replace e2 := e2.symm
  have n1 : ¬ wide = 0 := by omega
  have n2 : ¬ high = 0 := by omega
  have F1 := Lib.hid f1
  have F2 := Lib.hid f2
  obtain ⟨i0, hi, hz0, hz1, hz2⟩ := info_parts infoSheet
  have W1 : IntKind.i64.wrap (hx - lx) = hx - lx := IntWalk.i64_in _ (by omega)
  have W2 : IntKind.i64.wrap ((hx - lx).tdiv wide) = (hx - lx).tdiv wide := IntWalk.i64_in _ (by omega)
  have W3 : IntKind.i64.wrap ((hx - lx).tdiv wide + 1) = (C : Int) := by rw [e1]; exact IntWalk.i64_in _ (by omega)
  have W4 : IntKind.i64.wrap (hy - ly) = hy - ly := IntWalk.i64_in _ (by omega)
  have W5 : IntKind.i64.wrap ((hy - ly).tdiv high) = (hy - ly).tdiv high := IntWalk.i64_in _ (by omega)
  have W6 : IntKind.i64.wrap ((hy - ly).tdiv high + 1) = (R : Int) := by rw [e2]; exact IntWalk.i64_in _ (by omega)
  clear hm hs f1 f2 e1 e2
  go_enter Tryd.func15, Tryd.ntmps15
  go_wp2_with (first | (go_at_call 37; refine (right_c lx ly hx hy _).mono ?_; rintro e w1 ⟨rfl, hx1⟩; obtain ⟨hb1, hxx⟩ := ext1 hx1; rw [hb]))
  refine wp_region_all (fun _ _ _ => False) (by kernel_rfl) (by kernel_rfl) ?_
  repeat (first
    | (refine wpR_op rfl (fun w1 hw K hK => ?_); have c1 := (hb1.ext hw.of_drew).cell; go_simp; refine hK _ ?_; clear hK K c1 hw w1))
  refine wpR_nil ?_
  intro w2 hx2 _
  have hw2 := hxx.trans hx2.of_drew
  have hb2 := hb1.ext hx2.of_drew
  clear W1 W2 W3 W4 W5 W6 hb1 hx1 hx2
  go_wp2
  go_loopw [12, 71] (fun v i wr => ∃ r : Nat, r ≤ R ∧ i = .int .i64 r ∧ wr.ownsRow w2.heap.size 44 6 v (r * C) (flat (rows C (sheetAt lx ly wide high lap) r)) ∧ Ext w2 wr) (fun _ i _ => R - (intOf i).toNat)
  case atStart => exact ⟨0, by omega, rfl, by rw [Nat.zero_mul]; exact World.ownsRow_nil _ _ _ _, Ext.refl _⟩
  case round =>
    obtain ⟨r, hr, rfl, hown, hxr⟩ := hrel
    by_cases hrR : r < R
    · have hry0 : 0 ≤ (r : Int) * high := Int.mul_nonneg (by omega) (by omega)
      have hry1 := (F2.out (r : Int) (by omega)).2 (by omega)
      have hsm := mul_small hrR hq
      go_wp2
      go_loopw [12, 75] (fun v i wq => ∃ c : Nat, c ≤ C ∧ i = .int .i64 c ∧ wq.ownsRow w2.heap.size 44 6 v (r * C + c) (flat (part C (sheetAt lx ly wide high lap) r c)) ∧ Ext w2 wq) (fun _ i _ => C - (intOf i).toNat)
      case atStart => exact ⟨0, by omega, rfl, by rw [part_zero]; exact hown, hxr⟩
      case round =>
        obtain ⟨c, hc, rfl, hownc, hxc⟩ := hrel
        obtain ⟨ad, cap, rfl⟩ := owns_slice hownc
        by_cases hcC : c < C
        · have hcx0 : 0 ≤ (c : Int) * wide := Int.mul_nonneg (by omega) (by omega)
          have hcx1 := (F1.out (c : Int) (by omega)).2 (by omega)
          have hbr := hb2.ext hxc
          go_wp2_with fail
          refine wp_region_all (fun _ _ _ => False) (by kernel_rfl) (by kernel_rfl) ?_
          repeat (first
            | (refine wpR_op rfl (fun w1 hw K hK => ?_); have c1 := (hbr.ext hw.of_drew).cell; go_simp; refine hK _ ?_; clear hK K c1 hw w1))
          refine wpR_nil ?_
          intro w5 hx5 _
          replace hx5 := hx5.of_drew
          have hown5 := owns_ext hownc hx5
          have hs5 := (hxc.trans hx5).size
          go_wp2_with (first
            | (at_builtin; refine wpList_append_own _ rfl _ _ 37 rfl w2.heap.size 44 i0 (.agg #[.int .i64 0, .int .i64 0, .int .i64 0, .int .i64 0, .int .i64 0, .int .i64 0]) 6 48 Tryd.underlying37 hi hz0 hz1 hz2 rfl (by decide) _ _ _ rfl (hown5.alloc _) ⟨w5.heap.size, 0, none⟩ 1 1 (sheetAt lx ly wide high lap r c).cells rfl rfl ?c1 ?c2 ?c3 ?c4 ?c5 ?_)
            | go_in)
          case c1 => exact cells_new w5 (sheetAt lx ly wide high lap r c) _
          case c2 => exact cells_one _
          case c3 => unfold maxLen; omega
          case c4 => omega
          case c5 => simp; omega
          · intro v' w6 hown' hgrow _
            have R1 := rel_sheet hs5 ((Below.refl _ w5).alloc hs5 _) hown5 (hxc.trans hx5) hown' hgrow
            clear hown' hgrow hown5 hownc
            go_wp2
            go_roundw
            case rel => exact ⟨c + 1, by omega, by simp, by rw [part_succ]; exact R1.1, R1.2⟩
            case measure => simp [intOf]; omega
        · rw [show c = C by omega, part_row] at hownc
          have hcC' : ¬ (c : Int) < (C : Int) := by omega
          go_wp2
          go_roundw
          case rel => exact ⟨r + 1, by omega, by simp, by rw [Nat.succ_mul, ← show c = C by omega]; rw [← show c = C by omega] at hownc; exact hownc, hxc⟩
          case measure => simp [intOf]; omega
    · rw [show r = R by omega] at hown
      obtain ⟨ad, cap, rfl⟩ := owns_slice hown
      have hI := sheets_of_owns hown (by rw [rows_length])
      go_wp2
      go_ret2
      exact ⟨ad, _, cap, rfl, hI, hw2.trans hxr⟩
end Go.Proofs.YtdgaeodkffhciaaDoor
