/- Walk: mercatorref2.Multiples. -/
import Derived.Test.YtdgaeodkffhciaaDoorProg
import Derived.Test.YtdgaeodkffhciaaDoorW
import Derived.Test.YtdgaeodkffhciaaDoorQ2
import Derived.Test.YtdgaeodkffhciaaDoorQ1
import Derived.WalkKit
namespace Go.Proofs.YtdgaeodkffhciaaDoor
open Go.RowKit Go.Rel
set_option maxRecDepth 20000

theorem infoInt : (Tryd.prog.info? 3).map (fun i => (i.zero, i.size, i.bytes)) = some (some (.int .i64 0), 1, 8) := by kernel_rfl
/-- one more element, behind an append -/
theorem rel_more {B n : Nat} {c s : Int} {w wr w1 : World} {v v' : Value} {o : Obj} (hB : B ≤ wr.heap.size)
    (hown : wr.ownsRow B 3 1 v n (ints (run c s n))) (hnx : Below B w wr)
    (hown' : w1.ownsRow B 3 1 v' (n + 1) (ints (run c s n) ++ [.int .i64 ((c + (n : Int)) * s)])) (hgrow : (wr.alloc o).grownBy w1 v.ownBlock) :
    w1.ownsRow B 3 1 v' (n + 1) (ints (run c s (n + 1))) ∧ Below B w w1 := by
  refine ⟨by rw [run_succ]; simpa [ints] using hown', (hnx.alloc (by omega) o).grown hgrow (by simp; omega) (fun j hj => (hown.lt j hj).1)⟩

set_option maxHeartbeats 8000000 in
theorem multiples_c (low high s : Int) (w : World) (hs : 0 < s) (hs2 : s ≤ 1099511627776) (l1 : low ≤ 16777216) (l2 : -16777216 ≤ low) (h1 : high ≤ 16777216) (h2 : -16777216 ≤ high) :
    Calls Tryd.prog 12 #[.int .i64 low, .int .i64 high, .int .i64 s] w fun e w' => ∃ v n, e = .returned v ∧ w'.ownsRow w.heap.size 3 1 v n (ints (run (ceilP low s) s n)) ∧ Ext w w' ∧
      n ≤ 4001 ∧ (n ≤ 4000 → floorP high s < ceilP low s + n) ∧ (n = 0 ∨ ceilP low s + n - 1 ≤ floorP high s) := by
  obtain ⟨i0, hi, hz0, hz1, hz2⟩ := info_parts infoInt
  obtain ⟨t1, t2, t3, t4⟩ := tdiv_le hs 16777216 l1 l2
  obtain ⟨c1, c2⟩ := ceil_bound hs l1 l2
  have nr := near (a := low) hs
  have ec := ceil_tdiv (a := low) hs
  have key : ∀ (x : Int), x = ceilP low s - 1 → x * s < low := fun x e => by
    rcases Int.lt_or_le (x * s) low with h | h
    · exact h
    · have := (ceil_iff hs low x).1 h; omega
  generalize hc : ceilP low s = c at *
  generalize hf : floorP high s = f at *
  have hbd : ∀ n : Nat, n ≤ 4001 → -16777216 ≤ (c + (n : Int)) * s ∧ (c + (n : Int)) * s ≤ 9007199254740992 := fun n hn => by
    have a1 := (ceil_iff hs low c).2 (by omega)
    have a2 := key (c - 1) rfl
    have a3 : (n : Int) * s ≤ 4001 * s := Int.mul_le_mul_of_nonneg_right (by omega) (by omega)
    have a4 : 0 ≤ (n : Int) * s := Int.mul_nonneg (by omega) (by omega)
    rw [Int.sub_mul] at a2
    rw [Int.add_mul]; omega
  have b1 := (ceil_iff hs low c).2 (by omega)
  have b2 := key (c - 1) rfl
  have b3 : -1116691496960 ≤ (c - 1) * s := by rw [Int.sub_mul]; omega
  have b4 : c * s ≤ 9007199254740992 := by have := (hbd 0 (by omega)).2; simpa using this
  have hq : low.tdiv s = c ∨ low.tdiv s = c - 1 := by split at ec <;> omega
  clear ec t3 t4 nr key
  generalize hqq : low.tdiv s = q at *
  go_enter Tryd.func12, Tryd.ntmps12
  go_wp2
  go_loop [8] (fun k => ∃ x : Int, k = .int .i64 x ∧ (x = c ∨ x = c - 1)) (fun k => (intOf k - c + 1).toNat)
  case atStart => exact ⟨q, rfl, hq⟩
  case round =>
    obtain ⟨x, rfl, hx⟩ := hrel
    rcases hx with rfl | rfl
    · go_wp2
      go_round
      case rel => exact ⟨_, rfl, Or.inr rfl⟩
      case measure => simp [intOf]; omega
    · go_wp2
      go_loopw [7, 8] (fun v k wr => ∃ n : Nat, n ≤ 4001 ∧ k = .int .i64 (c + (n : Int)) ∧ wr.ownsRow w.heap.size 3 1 v n (ints (run c s n)) ∧ Ext w wr ∧ (n = 0 ∨ c + (n : Int) - 1 ≤ f)) (fun _ k _ => (4001 - (intOf k - c)).toNat)
      case atStart => exact ⟨0, by omega, by simp, World.ownsRow_nil _ _ _ _, Ext.refl _, Or.inl rfl⟩
      case round =>
        obtain ⟨n, hn, rfl, hown, hnx, hle⟩ := hrel
        obtain ⟨ad, cap, rfl⟩ := owns_slice hown
        obtain ⟨m1, m2⟩ := hbd n hn
        have hsz := hnx.size
        by_cases g1 : (c + (n : Int)) * s ≤ high
        · by_cases g2 : n ≤ 4000
          · go_wp2_with (first
              | (at_builtin; refine wpList_append_own _ rfl _ _ 26 rfl w.heap.size 3 i0 (.int .i64 0) 1 8 Tryd.underlying26 hi hz0 hz1 hz2 rfl (by decide) _ _ _ rfl (hown.alloc _) ⟨wr.heap.size, 0, none⟩ 1 1 [.int .i64 ((c + (n : Int)) * s)] rfl rfl ?c1 ?c2 ?c3 ?c4 ?c5 ?_)
              | go_in)
            case c1 =>
              intro j u hj
              match j, hj with
              | 0, hj => simp at hj; subst hj; simp [Addr.add]
            case c2 => intro u hu; simp at hu; subst hu; rfl
            case c3 => unfold maxLen; omega
            case c4 => omega
            case c5 => simp; omega
            · intro v' w1 hown' hgrow _
              have R := rel_more hsz hown hnx hown' hgrow
              have hfl := (floor_iff hs high (c + (n : Int))).1 g1
              clear hown' hgrow hown
              go_wp2
              go_roundw
              case rel => exact ⟨n + 1, by omega, by simp; omega, R.1, R.2, Or.inr (by simp; omega)⟩
              case measure => simp [intOf]; omega
          · go_wp2
            go_ret
            exact ⟨_, n, rfl, hown, hnx, hn, fun h => by omega, hle⟩
        · go_wp2
          go_ret
          exact ⟨_, rfl, n, hown, hnx, hn, fun _ => by have := mt (floor_iff hs high (c + (n : Int))).2 (by omega); omega, hle⟩
end Go.Proofs.YtdgaeodkffhciaaDoor
