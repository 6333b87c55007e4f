/- Walk: mercatorref2.SheetsOf. -/
import Derived.Test.YtdgaeodkffhciaaDoorS3
namespace Go.Proofs.YtdgaeodkffhciaaDoor
open Go.RowKit Go.Rel
set_option maxRecDepth 20000

set_option maxHeartbeats 4000000 in
theorem sheetsOf_shape0 (lx ly hx hy wide high lap : Int) (w : World) (hb : boxP lx ly hx hy = false) :
    Calls Tryd.prog 16 #[boxV lx ly hx hy, .int .i64 wide, .int .i64 high, .int .i64 lap] w (ExR (.tuple #[.slice none 0 0, .int .i64 3]) w) := by
  go_enter Tryd.func16, Tryd.ntmps16
  go_wp2_with (first | (go_at_call 10; refine (isBox_c lx ly hx hy _).mono ?_; rintro e w1 ⟨rfl, hx1⟩; obtain ⟨hb1, hxx⟩ := ext1 hx1; rw [hb]))
  go_ret2
  exact ⟨rfl, hxx⟩
set_option maxHeartbeats 8000000 in
theorem sheetsOf_shape1 (lx ly hx hy wide high lap : Int) (w : World) (hb : boxP lx ly hx hy = true) (hs : okS wide high lap = false) :
    Calls Tryd.prog 16 #[boxV lx ly hx hy, .int .i64 wide, .int .i64 high, .int .i64 lap] w (ExR (.tuple #[.slice none 0 0, .int .i64 3]) w) := by
  have HB : Hid (wide < 1 ∨ 33554432 < wide ∨ high < 1 ∨ 33554432 < high ∨ lap < 0 ∨ 16777216 < lap) := okS_false hs
  clear hs
  go_enter Tryd.func16, Tryd.ntmps16
  go_wp2_with (first | (go_at_call 10; refine (isBox_c lx ly hx hy _).mono ?_; rintro e w1 ⟨rfl, hx1⟩; obtain ⟨hb1, hxx⟩ := ext1 hx1; rw [hb]))
  all_goals first
    | (exfalso; have := HB.out; omega)
    | (go_ret2; exact ⟨rfl, hxx⟩)

set_option maxHeartbeats 8000000 in
theorem sheetsOf_bound (lx ly hx hy wide high lap : Int) (w : World) (hb : boxP lx ly hx hy = true) (hs : okS wide high lap = true) (hm : 4000 < howMany lx ly hx hy wide high) :
    Calls Tryd.prog 16 #[boxV lx ly hx hy, .int .i64 wide, .int .i64 high, .int .i64 lap] w (ExR (.tuple #[.slice none 0 0, .int .i64 2]) w) := by
  obtain ⟨⟨x1, x2⟩, ⟨y1, y2⟩, ⟨u1, u2⟩, ⟨v1, v2⟩, xh, yh⟩ := box_in hb
  obtain ⟨s1, s2, s3, s4, s5, s6⟩ := okS_true hs
  obtain ⟨p1, p2⟩ := many_le xh (show 0 < wide by omega)
  obtain ⟨p3, p4⟩ := many_le yh (show 0 < high by omega)
  have hq : 4000 < ((hx - lx).tdiv wide + 1) * ((hy - ly).tdiv high + 1) := by
    rw [← howMany_eq xh yh (by omega) (by omega)]; omega
  obtain ⟨q1, q2⟩ := prod_bound p1 (by omega) p3 (by omega)
  have n1 : ¬ wide = 0 := by omega
  have n2 : ¬ high = 0 := by omega
  have W1 : IntKind.i64.wrap (hx - lx) = hx - lx := IntWalk.i64_in _ (by omega)
  have W2 : IntKind.i64.wrap ((hx - lx).tdiv wide) = (hx - lx).tdiv wide := IntWalk.i64_in _ (by omega)
  have W3 : IntKind.i64.wrap (1 + (hx - lx).tdiv wide) = (hx - lx).tdiv wide + 1 := by rw [Int.add_comm]; exact IntWalk.i64_in _ (by omega)
  have W4 : IntKind.i64.wrap (hy - ly) = hy - ly := IntWalk.i64_in _ (by omega)
  have W5 : IntKind.i64.wrap ((hy - ly).tdiv high) = (hy - ly).tdiv high := IntWalk.i64_in _ (by omega)
  have W6 : IntKind.i64.wrap (1 + (hy - ly).tdiv high) = (hy - ly).tdiv high + 1 := by rw [Int.add_comm]; exact IntWalk.i64_in _ (by omega)
  have W7 : IntKind.i64.wrap (((hx - lx).tdiv wide + 1) * ((hy - ly).tdiv high + 1)) = ((hx - lx).tdiv wide + 1) * ((hy - ly).tdiv high + 1) := IntWalk.i64_in _ (by omega)
  clear hm hs
  go_enter Tryd.func16, Tryd.ntmps16
  go_wp2_with (first | (go_at_call 10; refine (isBox_c lx ly hx hy _).mono ?_; rintro e w1 ⟨rfl, hx1⟩; obtain ⟨hb1, hxx⟩ := ext1 hx1; rw [hb]))
  refine wp_region_all (fun _ _ _ => False) (by kernel_rfl) (by kernel_rfl) ?_
  repeat (first
    | (refine wpR_op rfl (fun w1 hw K hK => ?_); have c1 := (hb1.ext hw.of_drew).cell; go_simp; refine hK _ ?_; clear hK K c1 hw w1))
  refine wpR_nil ?_
  intro w2 hx2 _
  have hw2 := hxx.trans hx2.of_drew
  go_wp2
  go_ret2
  exact ⟨rfl, hw2⟩

theorem infoSheet2 : (Tryd.prog.info? 45).map (fun i => (i.zero, i.size, i.bytes)) = some (some (.agg #[.int .i64 0, .int .i64 0, .int .i64 0, .int .i64 0, .int .i64 0, .int .i64 0]), 6, 48) := by kernel_rfl

theorem cells_new2 (w : World) (o o' : Obj) (s : Sh) (t : TypeId) : ∀ (j : Nat) (u : Value), s.cells[j]? = some u → (((w.alloc o).alloc o').alloc (.cells s.cells.toArray t)).cell? ((⟨w.heap.size + 1 + 1, 0, none⟩ : Addr).add j) = some u := fun j u hj => by
  have h := cells_new ((w.alloc o).alloc o') s t j u hj
  rw [alloc_size, alloc_size] at h
  exact h

set_option maxHeartbeats 40000000 in
theorem sheetsOf_ok (lx ly hx hy wide high lap : Int) (w : World) (hb : boxP lx ly hx hy = true) (hs : okS wide high lap = true) (hm : howMany lx ly hx hy wide high ≤ 4000) :
    Calls Tryd.prog 16 #[boxV lx ly hx hy, .int .i64 wide, .int .i64 high, .int .i64 lap] w fun e w' => ∃ ad n cap, e = .returned (.tuple #[.slice ad n cap, .int .i64 0]) ∧
      SheetsAt w' (.slice ad n cap) (rows (many lx hx wide) (sheetAt lx ly wide high lap) (many ly hy high)) ∧ Ext w w' := by
  obtain ⟨⟨x1, x2⟩, ⟨y1, y2⟩, ⟨u1, u2⟩, ⟨v1, v2⟩, xh, yh⟩ := box_in hb
  obtain ⟨s1, s2, s3, s4, s5, s6⟩ := okS_true hs
  obtain ⟨p1, p2⟩ := many_le xh (show 0 < wide by omega)
  obtain ⟨p3, p4⟩ := many_le yh (show 0 < high by omega)
  obtain ⟨e1, f1⟩ := many_spec xh (show 0 < wide by omega)
  obtain ⟨e2, f2⟩ := many_spec yh (show 0 < high by omega)
  have hq : (many lx hx wide : Int) * (many ly hy high : Int) ≤ 4000 := by
    have : (howMany lx ly hx hy wide high : Int) = (many ly hy high : Int) * (many lx hx wide : Int) := by unfold howMany; rw [Int.natCast_mul]
    rw [Int.mul_comm]; omega
  have hq0 : 0 ≤ (many lx hx wide : Int) * (many ly hy high : Int) := Int.mul_nonneg (by omega) (by omega)
  generalize many lx hx wide = C at *
  generalize many ly hy high = R at *
  have c0 : (C : Int) ≤ 33554433 := by omega
  have r0 : (R : Int) ≤ 33554433 := by omega
  replace e1 := e1.symm
  replace e2 := e2.symm
  have n1 : ¬ wide = 0 := by omega
  have n2 : ¬ high = 0 := by omega
  have F1 := Lib.hid f1
  have F2 := Lib.hid f2
  obtain ⟨i0, hi, hz0, hz1, hz2⟩ := info_parts infoSheet2
  have W1 : IntKind.i64.wrap (hx - lx) = hx - lx := IntWalk.i64_in _ (by omega)
  have W2 : IntKind.i64.wrap ((hx - lx).tdiv wide) = (hx - lx).tdiv wide := IntWalk.i64_in _ (by omega)
  have W3 : IntKind.i64.wrap (1 + (hx - lx).tdiv wide) = (C : Int) := by rw [Int.add_comm, e1]; exact IntWalk.i64_in _ (by omega)
  have W4 : IntKind.i64.wrap (hy - ly) = hy - ly := IntWalk.i64_in _ (by omega)
  have W5 : IntKind.i64.wrap ((hy - ly).tdiv high) = (hy - ly).tdiv high := IntWalk.i64_in _ (by omega)
  have W6 : IntKind.i64.wrap (1 + (hy - ly).tdiv high) = (R : Int) := by rw [Int.add_comm, e2]; exact IntWalk.i64_in _ (by omega)
  have W7 : IntKind.i64.wrap ((C : Int) * (R : Int)) = (C : Int) * (R : Int) := IntWalk.i64_in _ (by omega)
  clear hm hs f1 f2 e1 e2
  go_enter Tryd.func16, Tryd.ntmps16
  go_wp2_with (first | (go_at_call 10; refine (isBox_c lx ly hx hy _).mono ?_; rintro e w1 ⟨rfl, hx1⟩; obtain ⟨hb1, hxx⟩ := ext1 hx1; rw [hb]))
  refine wp_region_all (fun _ _ _ => False) (by kernel_rfl) (by kernel_rfl) ?_
  repeat (first
    | (refine wpR_op rfl (fun w1 hw K hK => ?_); have c1 := (hb1.ext hw.of_drew).cell; go_simp; refine hK _ ?_; clear hK K c1 hw w1))
  refine wpR_nil ?_
  intro w2 hx2 _
  have hw2 := hxx.trans hx2.of_drew
  have hb2 := hb1.ext hx2.of_drew
  clear W1 W2 W3 W4 W5 W6 W7 hb1 hx1 hx2
  have c2 := hb2.cell
  go_wp2
  clear c2
  go_loopw [11, 12, 13] (fun v i yy wr => ∃ r : Nat, r ≤ R ∧ i = .int .i64 r ∧ yy = .int .i64 (ly + (r : Int) * high) ∧ wr.ownsRow w2.heap.size 45 6 v (r * C) (flat (rows C (sheetAt lx ly wide high lap) r)) ∧ Ext w2 wr) (fun _ i _ _ => R - (intOf i).toNat)
  case atStart => exact ⟨0, by omega, rfl, by simp, by rw [Nat.zero_mul]; exact World.ownsRow_nil _ _ _ _, Ext.refl _⟩
  case round =>
    obtain ⟨r, hr, rfl, rfl, hown, hxr⟩ := hrel
    have hry0 : 0 ≤ (r : Int) * high := Int.mul_nonneg (by omega) (by omega)
    have hyi := F2.out (r : Int) (by omega)
    have hbr := hb2.ext hxr
    have cr := hbr.cell
    by_cases hrR : r < R
    · have hry1 := hyi.2 (by omega)
      have hsm := mul_small hrR hq
      clear hyi
      go_wp2
      clear cr
      go_loopw [11, 14, 15] (fun v i xx wq => ∃ c : Nat, c ≤ C ∧ i = .int .i64 c ∧ xx = .int .i64 (lx + (c : Int) * wide) ∧ wq.ownsRow w2.heap.size 45 6 v (r * C + c) (flat (part C (sheetAt lx ly wide high lap) r c)) ∧ Ext w2 wq) (fun _ i _ _ => C - (intOf i).toNat)
      case atStart => exact ⟨0, by omega, rfl, by simp, by rw [part_zero]; exact hown, hxr⟩
      case round =>
        obtain ⟨c, hc, rfl, rfl, hownc, hxc⟩ := hrel
        obtain ⟨ad, cap, rfl⟩ := owns_slice hownc
        have hcx0 : 0 ≤ (c : Int) * wide := Int.mul_nonneg (by omega) (by omega)
        have hxi := F1.out (c : Int) (by omega)
        have hbq := hb2.ext hxc
        have cq := hbq.cell
        have hsq := hxc.size
        by_cases hcC : c < C
        · have hcx1 := hxi.2 (by omega)
          clear hxi
          go_wp2_with (first
            | (at_builtin; refine wpList_append_own _ rfl _ _ 40 rfl w2.heap.size 45 i0 (.agg #[.int .i64 0, .int .i64 0, .int .i64 0, .int .i64 0, .int .i64 0, .int .i64 0]) 6 48 Tryd.underlying40 hi hz0 hz1 hz2 rfl (by decide) _ _ _ rfl (((hownc.alloc _).alloc _).alloc _) ⟨wr.heap.size + 1 + 1, 0, none⟩ 1 1 (Sh.mk (c : Int) (r : Int) (lx + (c : Int) * wide - lap) (ly + (r : Int) * high - lap) (lx + (c : Int) * wide + wide + lap - 1) (ly + (r : Int) * high + high + lap - 1)).cells rfl rfl ?c1 ?c2 ?c3 ?c4 ?c5 ?_)
            | go_in)
          case c1 => exact cells_new2 wr _ _ (Sh.mk (c : Int) (r : Int) (lx + (c : Int) * wide - lap) (ly + (r : Int) * high - lap) (lx + (c : Int) * wide + wide + lap - 1) (ly + (r : Int) * high + high + lap - 1)) _
          case c2 => exact cells_one _
          case c3 => unfold maxLen; omega
          case c4 => omega
          case c5 => simp; omega
          · intro v' w6 hown' hgrow _
            have hS : (Sh.mk (c : Int) (r : Int) (lx + (c : Int) * wide - lap) (ly + (r : Int) * high - lap) (lx + (c : Int) * wide + wide + lap - 1) (ly + (r : Int) * high + high + lap - 1)) = sheetAt lx ly wide high lap r c := by
              simp only [sheetAt, Sh.mk.injEq, true_and]; omega
            rw [hS] at hown'
            clear hS
            have R1 := rel_sheet hsq ((((Below.refl _ wr).alloc hsq _).alloc (by simp; omega) _).alloc (by simp; omega) _) hownc hxc hown' hgrow
            clear hown' hgrow hownc cq hbq
            go_wp2
            go_roundw
            case rel => exact ⟨c + 1, by omega, by simp, by simp only [Int.natCast_add, Int.natCast_one, Int.add_mul, Int.one_mul]; congr 1; omega, by rw [part_succ]; exact R1.1, R1.2⟩
            case measure => simp [intOf]; omega
        · have hcx1 : ¬ lx + (c : Int) * wide ≤ hx := fun h => hcC (by have := hxi.1 h; omega)
          clear hxi
          have hcC' : Hid (c = C) := by show c = C; omega
          go_wp2
          go_roundw
          case rel =>
            refine ⟨r + 1, by omega, by simp, by simp only [Int.natCast_add, Int.natCast_one, Int.add_mul, Int.one_mul]; congr 1; omega, ?_, hxc⟩
            rw [Nat.succ_mul, ← part_row]
            have hcc := hcC'.out
            subst hcc
            exact hownc
          case measure => simp [intOf]; omega
    · have hry1 : ¬ ly + (r : Int) * high ≤ hy := fun h => hrR (by have := hyi.1 h; omega)
      clear hyi
      rw [show r = R by omega] at hown
      obtain ⟨ad, cap, rfl⟩ := owns_slice hown
      have hI := sheets_of_owns hown (by rw [rows_length])
      go_wp2
      go_ret2
      exact ⟨ad, _, cap, rfl, hI, hw2.trans hxr⟩
end Go.Proofs.YtdgaeodkffhciaaDoor
