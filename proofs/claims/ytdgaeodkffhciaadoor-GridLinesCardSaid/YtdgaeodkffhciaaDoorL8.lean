/- Walk: grid.Lines, where there are lines. -/
import Derived.Test.YtdgaeodkffhciaaDoorProg
import Derived.Test.YtdgaeodkffhciaaDoorW
import Derived.Test.YtdgaeodkffhciaaDoorQ2
import Derived.Test.YtdgaeodkffhciaaDoorL2
import Derived.Test.YtdgaeodkffhciaaDoorL3
import Derived.Test.YtdgaeodkffhciaaDoorL4
import Derived.Test.YtdgaeodkffhciaaDoorL5
import Derived.WalkKit
namespace Go.Proofs.YtdgaeodkffhciaaDoor
open Go.RowKit Go.Rel
set_option maxRecDepth 20000

set_option maxHeartbeats 8000000 in
theorem lines_ok (lx ly hx hy s : Int) (w : World) (hb : boxP lx ly hx hy = true) (hs : 0 < s) (hs2 : s ≤ 9223372036854775807)
    (hm : floorP hx s - ceilP lx s < 4000) (hm' : floorP hy s - ceilP ly s < 4000) :
    Calls Tryd.prog 9 #[boxV lx ly hx hy, .int .i64 s] w fun e w' => ∃ ad n cap ad' n' cap', e = .returned (.tuple #[.slice ad n cap, .slice ad' n' cap', .nilIface]) ∧
      IntsAt w' (.slice ad n cap) (run (ceilP lx s) s n) ∧ IntsAt w' (.slice ad' n' cap') (run (ceilP ly s) s n') ∧ n = (floorP hx s - ceilP lx s + 1).toNat ∧ n' = (floorP hy s - ceilP ly s + 1).toNat ∧ Ext w w' := by
  obtain ⟨⟨x1, x2⟩, ⟨y1, y2⟩, ⟨u1, u2⟩, ⟨v1, v2⟩, _, _⟩ := box_in hb
  obtain ⟨p1, p2⟩ := ceil_bound hs x1 x2
  obtain ⟨p3, p4⟩ := ceil_bound hs y1 y2
  obtain ⟨p5, p6⟩ := floor_bound hs u1 u2
  obtain ⟨p7, p8⟩ := floor_bound hs v1 v2
  obtain ⟨i0, hi, hz0, hz1, hz2⟩ := info_parts infoInt
  have fx : ∀ z, ceilP lx s ≤ z → z ≤ floorP hx s → -16777216 ≤ z * s ∧ z * s ≤ 16777216 := fun z h1 h2 => by
    have a1 := (ceil_iff hs lx z).2 h1
    have a2 := (floor_iff hs hx z).2 h2
    omega
  have fy : ∀ z, ceilP ly s ≤ z → z ≤ floorP hy s → -16777216 ≤ z * s ∧ z * s ≤ 16777216 := fun z h1 h2 => by
    have a1 := (ceil_iff hs ly z).2 h1
    have a2 := (floor_iff hs hy z).2 h2
    omega
  have mf := mf_span
  have tk : Hid True := trivial
  have hs' : ¬ s < 1 := by omega
  have SX := span_c lx hx s
  have SY := span_c ly hy s
  generalize ceilP lx s = c at *
  generalize ceilP ly s = c' at *
  generalize floorP hx s = f at *
  generalize floorP hy s = f' at *
  go_enter Tryd.func9, Tryd.ntmps9
  go_wp2_with (first
      | (go_at_call 37; refine (right_c lx ly hx hy _).mono ?_; rintro e w1 ⟨rfl, hx1⟩; obtain ⟨hb1, hb2, hxx⟩ := ext2 hx1; rw [hb];
         have k1 : w1.cell? ⟨w.heap.size + 1, 0, none⟩ = some (.int .i64 s) := hb2.cell 0; have b0 : w1.cell? ⟨w.heap.size, 0, none⟩ = some (.int .i64 lx) := hb1.cell 0;
         have b2 : w1.cell? ⟨w.heap.size, 2, none⟩ = some (.int .i64 hx) := hb1.cell 2)
      | (go_at_call 38; clear tk; refine (SX _ _ hs hs2 x1 x2 u1 u2 (by assumption)).mono ?_; rintro e w2 ⟨rfl, hx2⟩; have hb1' := hb1.ext hx2; have hb2' := hb2.ext hx2;
         have k2 : w2.cell? ⟨w.heap.size + 1, 0, none⟩ = some (.int .i64 s) := hb2'.cell 0;
         have d1 : w2.cell? ⟨w.heap.size, 1, none⟩ = some (.int .i64 ly) := hb1'.cell 1; have d3 : w2.cell? ⟨w.heap.size, 3, none⟩ = some (.int .i64 hy) := hb1'.cell 3)
      | (go_at_call 38; refine (SY _ _ hs hs2 y1 y2 v1 v2 (by assumption)).mono ?_; rintro e w3 ⟨rfl, hx3⟩; have hb2'' := hb2'.ext hx3;
         have k3 : w3.cell? ⟨w.heap.size + 1, 0, none⟩ = some (.int .i64 s) := hb2''.cell 0; have hw3 : Ext w w3 := (hxx.trans hx2).trans hx3))
  clear SX SY
  have hl3 := hb2''.lt
  go_loopw [4, 8] (fun v k wr => ∃ n : Nat, n ≤ 4000 ∧ k = .int .i64 (c + (n : Int)) ∧ wr.ownsRow w3.heap.size 3 1 v n (ints (run c s n)) ∧ Ext w3 wr ∧ (n = 0 ∨ c + (n : Int) - 1 ≤ f)) (fun _ k _ => (4001 - (intOf k - c)).toNat)
  case atStart => exact ⟨0, by omega, by simp, World.ownsRow_nil _ _ _ _, Ext.refl _, Or.inl rfl⟩
  case round =>
    obtain ⟨n, hn, rfl, hown, hnx, hle⟩ := hrel
    obtain ⟨ad, cap, rfl⟩ := owns_slice hown
    have hsz := hnx.size
    by_cases g1 : c + (n : Int) ≤ f
    · obtain ⟨m1, m2⟩ := fx _ (by omega) g1
      have kr : wr.cell? ⟨w.heap.size + 1, 0, none⟩ = some (.int .i64 s) := (hb2''.ext hnx).cell 0
      go_wp2_with (first
              | (at_builtin; refine wpList_append_own _ rfl _ _ 26 rfl w3.heap.size 3 i0 (.int .i64 0) 1 8 Tryd.underlying26 hi hz0 hz1 hz2 rfl (by decide) _ _ _ rfl (hown.alloc _) ⟨wr.heap.size, 0, none⟩ 1 1 [.int .i64 ((c + (n : Int)) * s)] rfl rfl ?c1 ?c2 ?c3 ?c4 ?c5 ?_)
              | go_in)
      case c1 =>
        intro j u hj
        match j, hj with
        | 0, hj => simp at hj; subst hj; simp [Addr.add]
      case c2 => intro u hu; simp at hu; subst hu; rfl
      case c3 => unfold maxLen; omega
      case c4 => omega
      case c5 => simp; omega
      · intro v' w4 hown' hgrow _
        have R := rel_more hsz hown hnx hown' hgrow
        clear hown' hgrow hown
        go_wp2
        go_roundw
        case rel => exact ⟨n + 1, by omega, by simp; omega, R.1, R.2, Or.inr (by simp; omega)⟩
        case measure => simp [intOf]; omega
    · have hI := ints_of_owns hown
      have hxr : Ext w wr := hw3.trans hnx
      have hbr := hb2''.ext hnx
      have hlr := hbr.lt
      go_wp2
      go_loopw [5, 10] (fun v k wq => ∃ n' : Nat, n' ≤ 4000 ∧ k = .int .i64 (c' + (n' : Int)) ∧ wq.ownsRow wr.heap.size 3 1 v n' (ints (run c' s n')) ∧ Ext wr wq ∧ (n' = 0 ∨ c' + (n' : Int) - 1 ≤ f')) (fun _ k _ => (4001 - (intOf k - c')).toNat)
      case atStart => exact ⟨0, by omega, by simp, World.ownsRow_nil _ _ _ _, Ext.refl _, Or.inl rfl⟩
      case round =>
        obtain ⟨n', hn', rfl, hown', hnx', hle'⟩ := hrel
        obtain ⟨ad', cap', rfl⟩ := owns_slice hown'
        have hsz' := hnx'.size
        by_cases g2 : c' + (n' : Int) ≤ f'
        · obtain ⟨m1, m2⟩ := fy _ (by omega) g2
          have kq : wr.cell? ⟨w.heap.size + 1, 0, none⟩ = some (.int .i64 s) := (hbr.ext hnx').cell 0
          go_wp2_with (first
              | (at_builtin; refine wpList_append_own _ rfl _ _ 26 rfl _ 3 i0 (.int .i64 0) 1 8 Tryd.underlying26 hi hz0 hz1 hz2 rfl (by decide) _ _ _ rfl (hown'.alloc _) ⟨wr.heap.size, 0, none⟩ 1 1 [.int .i64 ((c' + (n' : Int)) * s)] rfl rfl ?c1 ?c2 ?c3 ?c4 ?c5 ?_)
              | go_in)
          case c1 =>
            intro j u hj
            match j, hj with
            | 0, hj => simp at hj; subst hj; simp [Addr.add]
          case c2 => intro u hu; simp at hu; subst hu; rfl
          case c3 => unfold maxLen; omega
          case c4 => omega
          case c5 => simp; omega
          · intro v' w4 hown4 hgrow _
            have R := rel_more hsz' hown' hnx' hown4 hgrow
            clear hown4 hgrow hown'
            go_wp2
            go_roundw
            case rel => exact ⟨n' + 1, by omega, by simp; omega, R.1, R.2, Or.inr (by simp; omega)⟩
            case measure => simp [intOf]; omega
        · have hI' := ints_of_owns hown'
          go_wp2
          go_ret3
          exact ⟨ad, n, cap, ad', n', cap', rfl, hI.ext hnx', hI', by omega, by omega, hxr.trans hnx'⟩
end Go.Proofs.YtdgaeodkffhciaaDoor
