/- The walk of the statement WaveSeries. -/
import Derived.Test.YtmmifmlkhmdgaaaDoorU6
import Derived.Test.YtmmifmlkhmdgaaaDoorHS
import Derived.Test.YtmmifmlkhmdgaaaDoorZD
namespace Go.Proofs.YtmmifmlkhmdgaaaDoor
open Go.RowKit Go.Fp Go.Rel
set_option maxRecDepth 20000

set_option maxHeartbeats 8000000 in
theorem waveSeries_bad {A : Nat → Addr} (a f : Nat) (u : Int) (v : Nat) (w : World) (h8 : World8 A w) (hg : okG a f = false) : Calls Tryd.prog 5 #[globeV a f, .int .i64 u, .float .f64 v] w (ExR (.bool true) w) := by
  have HW := Lib.hid (fun w h8 => waved_c (A := A) w h8)
  have HS := Lib.hid (fun w h8 => series_bad (A := A) a f w h8 hg)
  have HG0 := fun w => globeError_c a f w
  simp only [hg, Bool.false_eq_true, if_false] at HG0
  have HG := Lib.hid HG0
  clear HG0
  have H8 := Lib.hid h8
  clear h8 hg
  go_enter Tryd.func5, Tryd.ntmps5
  go_wp2_with (first
    | (go_at_call 24; go_must (refine (HW.out _ (H8.out.ext (by repeat (first | exact Ext.refl _ | refine Ext.alloc ?_ _)))).mono ?_; rintro e w1 ⟨rfl, hx⟩; obtain ⟨hb1, hw⟩ := ext1 hx; clear hx; have c1 := hb1.cell))
    | (go_at_call 8; go_must (refine (ball_c a f _).mono ?_; rintro e w2 ⟨rfl, hx⟩; replace hw := hw.trans (bareN hx rfl rfl rfl rfl); replace hb1 := hb1.ext (bareN hx rfl rfl rfl rfl); clear hx c1; have c1 := hb1.cell))
    | (go_at_call 25; go_must (refine (HS.out _ (H8.out.ext hw)).mono ?_; rintro e w3 ⟨rfl, hx⟩; replace hw := hw.trans hx; replace hb1 := hb1.ext hx; clear hx c1; have k1 : ∀ o o' i, ((w3.alloc o).alloc o').cell? ⟨w.heap.size, i, none⟩ = #[Value.float .f64 a, Value.float .f64 f][i]? := (fun o o' i => (hb1.ext (((Ext.refl w3).alloc o).alloc o')).cell i)))
    | (go_at_call 26; go_must (refine (HG.out _).mono ?_; rintro e w4 ⟨rfl, hx⟩; obtain ⟨hba, hbb, hx'⟩ := ext2 hx; replace hw := hw.trans hx'; clear hx hx' k1 hb1))
    | (go_at_call 18; go_must (refine (coded_c (H8.out.ext hw) ErrOf.shape _).mono ?_; rintro e w5 ⟨rfl, hx⟩; have hx' := bareN hx rfl rfl rfl rfl; replace hw := hw.trans hx'; replace hba := hba.ext hx'; replace hbb := hbb.ext hx'; clear hx hx'; have ca := hba.cell; have cb := hbb.cell)))
  go_ret
  exact ⟨rfl, hw⟩

theorem fl4_pick {T : Nat → List Nat} {c f g y0 y1 y2 y3 : Nat} (h : can y0 = rowS T c f 0 ∧ can y1 = rowS T c f 1 ∧ can y2 = rowS T c f 2 ∧ can y3 = rowS T c f 3) (k : Nat) (hk : k < 4) :
    ∃ y, can y = rowS T c f k ∧ ∀ w, Fl4 w g y0 y1 y2 y3 → w.cell? ⟨g, k, none⟩ = some (.float .f64 y) := by
  obtain ⟨h0, h1, h2, h3⟩ := h
  rcases k with _ | _ | _ | _ | k
  · exact ⟨y0, h0, fun w h => h.1⟩
  · exact ⟨y1, h1, fun w h => h.2.1⟩
  · exact ⟨y2, h2, fun w h => h.2.2.1⟩
  · exact ⟨y3, h3, fun w h => h.2.2.2⟩
  · omega

set_option maxHeartbeats 16000000 in
theorem waveSeries_ok {A : Nat → Addr} (a f : Nat) (u : Int) (v : Nat) (w : World) (h8 : World8 A w) (hg : okG a f = true) : Calls Tryd.prog 5 #[globeV a f, .int .i64 u, .float .f64 v] w (ExR (.bool true) w) := by
  have HW := Lib.hid (fun w h8 => waved_c (A := A) w h8)
  have HS := Lib.hid (fun w h8 => series_ok (A := A) a f w h8 hg)
  have HN := Lib.hid (fun w => numbersOf_c a f w hg)
  have HG0 := fun w => globeError_c a f w
  simp only [hg, if_true] at HG0
  have HG := Lib.hid HG0
  clear HG0
  have H8 := Lib.hid h8
  clear h8 hg
  go_enter Tryd.func5, Tryd.ntmps5
  go_wp2_with (first
    | (go_at_call 24; go_must (refine (HW.out _ (H8.out.ext (by repeat (first | exact Ext.refl _ | refine Ext.alloc ?_ _)))).mono ?_; rintro e w1 ⟨rfl, hx⟩; obtain ⟨hb1, hw⟩ := ext1 hx; clear hx; have c1 := hb1.cell))
    | (go_at_call 8; go_must (refine (ball_c a f _).mono ?_; rintro e w2 ⟨rfl, hx⟩; replace hw := hw.trans (bareN hx rfl rfl rfl rfl); replace hb1 := hb1.ext (bareN hx rfl rfl rfl rfl); clear hx c1; have c1 := hb1.cell))
    | (go_at_call 25; go_must (refine (HS.out _ (H8.out.ext hw)).mono ?_; rintro e w3 ⟨r, y0, y1, y2, y3, x0, x1, x2, x3, rfl, hr, hA, hBB, hx⟩; have HA := Lib.hid hA; have HB := Lib.hid hBB; have HR := Lib.hid hr; clear hA hBB hr; obtain ⟨CA, hCA⟩ : ∃ C : Array Value, C = #[.float .f64 y0, .float .f64 y1, .float .f64 y2, .float .f64 y3] := ⟨_, rfl⟩; obtain ⟨CB, hCB⟩ : ∃ C : Array Value, C = #[.float .f64 x0, .float .f64 x1, .float .f64 x2, .float .f64 x3] := ⟨_, rfl⟩; replace hw := hw.trans hx; replace hb1 := hb1.ext hx; clear hx c1; have k1 : ∀ o o' i, ((w3.alloc o).alloc o').cell? ⟨w.heap.size, i, none⟩ = #[Value.float .f64 a, Value.float .f64 f][i]? := (fun o o' i => (hb1.ext (((Ext.refl w3).alloc o).alloc o')).cell i)))
    | (go_at_call 26; go_must (refine (HG.out _).mono ?_; rintro e w4 ⟨rfl, hx⟩; have hb4 := hb1.ext ((((Ext.refl w3).alloc _).alloc _).trans hx); obtain ⟨hba, hbb, hx'⟩ := ext2 hx; rw [← hCA] at hba; rw [← hCB] at hbb; have HCA := Lib.hid hCA; have HCB := Lib.hid hCB; clear hCA hCB; replace hw := hw.trans hx'; clear hx hx' k1 hb1; have c4 := hb4.cell))
    | (go_at_call 18; go_must (refine (coded_c (H8.out.ext hw) ErrOf.nil _).mono ?_; rintro e w5 ⟨rfl, hx⟩; have hx' := bareN hx rfl rfl rfl rfl; replace hw := hw.trans hx'; replace hba := hba.ext hx'; replace hbb := hbb.ext hx'; replace hb4 := hb4.ext hx'; clear hx hx' c4; have c4 := hb4.cell; have q0 : D.order 0 0 = some .eq := (by decide +kernel)))
    | (go_at_call 27; go_must (refine (HN.out _).mono ?_; rintro e w6 ⟨r', ga, ca, gb, cb, u0, u1, u2, u3, z0, z1, z2, z3, rfl, hr', hA', hB', hfa, hfb, hx⟩; have HR2 := Lib.hid hr'; have HA2 := Lib.hid hA'; have HB2 := Lib.hid hB'; replace hw := hw.trans hx; replace hba := hba.ext hx; replace hbb := hbb.ext hx; clear hx c4 hb4 hr' hA' hB')))
  have eN := (Ext.refl w6).alloc (.cells #[.float .f64 r', .slice (some ⟨ga, 0, none⟩) 4 ca, .slice (some ⟨gb, 0, none⟩) 4 cb] 60)
  have hbN := Blk.new w6 #[.float .f64 r', .slice (some ⟨ga, 0, none⟩) 4 ca, .slice (some ⟨gb, 0, none⟩) 4 cb] 60
  replace hw := hw.trans eN
  replace hba := hba.ext eN
  replace hbb := hbb.ext eN
  replace hfa := hfa.ext eN
  replace hfb := hfb.ext eN
  clear eN q0
  go_loopw [15] (fun iv wr => ∃ (k : Nat), iv = .int .i64 k ∧ k ≤ 4 ∧ Ext w wr ∧ Blk wr w3.heap.size 54 CA ∧ Blk wr (w3.heap.size + 1) 54 CB ∧ Blk wr w6.heap.size 60 #[.float .f64 r', .slice (some ⟨ga, 0, none⟩) 4 ca, .slice (some ⟨gb, 0, none⟩) 4 cb] ∧ Fl4 wr ga u0 u1 u2 u3 ∧ Fl4 wr gb z0 z1 z2 z3) (fun iv _ => 4 - (RowKit.intOf iv).toNat)
  case atStart => exact ⟨0, rfl, by omega, hw, hba, hbb, hbN, hfa, hfb⟩
  case round =>
    clear hw hba hbb hbN hfa hfb
    obtain ⟨k, rfl, hk, hw, hba, hbb, hbN, hfa, hfb⟩ := hrel
    rcases Nat.lt_or_ge k 4 with hlt | hge
    · obtain ⟨J, hJ⟩ : ∃ J : Int, J = (k : Int) + 1 := ⟨_, rfl⟩
      have WA : IntKind.i64.wrap ((k : Int) + 1) = J := by rw [hJ]; exact IntWalk.i64_in _ ⟨by omega, by omega⟩
      have K1 : (k : Int) < 4 := by omega
      obtain ⟨ya, EA, hya⟩ := row_at HA.out k hlt
      obtain ⟨yb, EB, hyb⟩ := row_at HB.out k hlt
      rw [← HCA.out] at EA
      rw [← HCB.out] at EB
      obtain ⟨ua, hua, FA⟩ := fl4_pick (g := ga) HA2.out k hlt
      obtain ⟨ub, hub, FB⟩ := fl4_pick (g := gb) HB2.out k hlt
      have HJ := Lib.hid hJ
      clear hJ
      go_wp2_with fail
      refine wp_region_all (fun g args v => g = 28 ∧ v = .bool true) (by kernel_rfl) (by kernel_rfl) ?_
      repeat (first
        | (refine wpR_op rfl (fun w9 hw9 K hK => ?_); have k2 := (hba.ext (bareN hw9 rfl rfl rfl rfl)).cell; have k3 := (hbN.ext (bareN hw9 rfl rfl rfl rfl)).cell; have k4 := FA w9 (hfa.ext (bareN hw9 rfl rfl rfl rfl)); go_simp; refine hK _ ?_; clear hK K k2 k3 k4 hw9 w9)
        | (refine wpR_op rfl (fun w9 hw9 K hK => ?_); go_simp; refine rel_call (ExR.call (sameBits_c _ _ _ (hya.trans hua.symm))) (fun v => ?_) (fun v hv => ?_); (simp); subst hv; refine hK _ ?_; clear hK K hw9 w9))
      refine wpR_nil ?_
      intro w8 hx8 _
      replace hw := hw.trans (bareN hx8 rfl rfl rfl rfl)
      replace hba := hba.ext (bareN hx8 rfl rfl rfl rfl)
      replace hbb := hbb.ext (bareN hx8 rfl rfl rfl rfl)
      replace hbN := hbN.ext (bareN hx8 rfl rfl rfl rfl)
      replace hfa := hfa.ext (bareN hx8 rfl rfl rfl rfl)
      replace hfb := hfb.ext (bareN hx8 rfl rfl rfl rfl)
      clear hx8
      go_wp2_with fail
      refine wp_region_all (fun g args v => g = 28 ∧ v = .bool true) (by kernel_rfl) (by kernel_rfl) ?_
      repeat (first
        | (refine wpR_op rfl (fun w9 hw9 K hK => ?_); have k2 := (hbb.ext (bareN hw9 rfl rfl rfl rfl)).cell; have k3 := (hbN.ext (bareN hw9 rfl rfl rfl rfl)).cell; have k4 := FB w9 (hfb.ext (bareN hw9 rfl rfl rfl rfl)); go_simp; refine hK _ ?_; clear hK K k2 k3 k4 hw9 w9)
        | (refine wpR_op rfl (fun w9 hw9 K hK => ?_); go_simp; refine rel_call (ExR.call (sameBits_c _ _ _ (hyb.trans hub.symm))) (fun v => ?_) (fun v hv => ?_); (simp); subst hv; refine hK _ ?_; clear hK K hw9 w9))
      refine wpR_nil ?_
      intro w8 hx8 _
      replace hw := hw.trans (bareN hx8 rfl rfl rfl rfl)
      replace hba := hba.ext (bareN hx8 rfl rfl rfl rfl)
      replace hbb := hbb.ext (bareN hx8 rfl rfl rfl rfl)
      replace hbN := hbN.ext (bareN hx8 rfl rfl rfl rfl)
      replace hfa := hfa.ext (bareN hx8 rfl rfl rfl rfl)
      replace hfb := hfb.ext (bareN hx8 rfl rfl rfl rfl)
      clear hx8
      go_wp2_with fail
      go_roundw
      case rel => exact ⟨k + 1, by rw [HJ.out]; simp, by omega, hw, hba, hbb, hbN, hfa, hfb⟩
      case measure =>
        have hj := HJ.out
        simp [RowKit.intOf]; omega
    · have h4 : k = 4 := by omega
      subst h4
      clear hba hbb hfa hfb
      have tkS : Hid True := trivial
      go_wp2_with (first
        | (go_at_call 29; go_must (refine (sine_c _ _ _).mono ?_; rintro e v1 ⟨sx, sy, rfl, hsx, hsy, hx⟩; replace hw := hw.trans (bareN hx rfl rfl rfl rfl); replace hbN := hbN.ext (bareN hx rfl rfl rfl rfl); clear hx))
        | (go_at_call 30; go_must (refine (cosine_c _ _ _).mono ?_; rintro e v2 ⟨cx, cy, rfl, hcx, hcy, hx⟩; replace hw := hw.trans (bareN hx rfl rfl rfl rfl); replace hbN := hbN.ext (bareN hx rfl rfl rfl rfl); clear hx))
        | (go_at_call 31; go_must (refine (sineOf_c _ _ _).mono ?_; rintro e v3 ⟨pa, pb, pc, pd, rfl, hpa, hpb, hpc, hpd, hx⟩; replace hw := hw.trans (bareN hx rfl rfl rfl rfl); replace hbN := hbN.ext (bareN hx rfl rfl rfl rfl); clear hx))
        | (go_at_call 28; clear tkS; go_must (refine (sameBits_c _ _ _ (by first | exact hsx.trans hpa.symm | exact hsy.trans hpb.symm | exact hcx.trans hpc.symm | exact hcy.trans hpd.symm | exact HR.out.trans HR2.out.symm)).mono ?_; rintro e v4 ⟨rfl, hx⟩; replace hbN := hbN.ext ((((Ext.refl v3).alloc _).alloc _).trans hx); obtain ⟨hP, hQ, hx'⟩ := ext2 hx; replace hw := hw.trans hx'; clear hx hx'; have kp := hP.cell; have kq := hQ.cell; have kn := hbN.cell))
        | (go_at_call 28; go_must (refine (sameBits_c _ _ _ (by first | exact hsx.trans hpa.symm | exact hsy.trans hpb.symm | exact hcx.trans hpc.symm | exact hcy.trans hpd.symm | exact HR.out.trans HR2.out.symm)).mono ?_; rintro e v4 ⟨rfl, hx⟩; have hx' := bareN hx rfl rfl rfl rfl; replace hw := hw.trans hx'; replace hP := hP.ext hx'; replace hQ := hQ.ext hx'; replace hbN := hbN.ext hx'; clear hx hx' kp kq kn; have kp := hP.cell; have kq := hQ.cell; have kn := hbN.cell)))
      go_ret
      exact ⟨rfl, hw⟩

theorem waveSeries_walk {A : Nat → Addr} (a f : Nat) (u : Int) (v : Nat) (w : World) (h8 : World8 A w) : Calls Tryd.prog 5 #[globeV a f, .int .i64 u, .float .f64 v] w (ExR (.bool true) w) := by
  cases hg : okG a f with
  | false => exact waveSeries_bad a f u v w h8 hg
  | true => exact waveSeries_ok a f u v w h8 hg
end Go.Proofs.YtmmifmlkhmdgaaaDoor
