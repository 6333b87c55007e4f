/- Walks: a number's digits, so many: package grid's and the reference's. -/
import Derived.Test.YteebbcdbkkliaaaDoorDB
import Derived.Laws.IdiomStrings
namespace Go.Proofs.YteebbcdbkkliaaaDoor
open Go.RowKit Go.Fp Go.Rel Go.Lib
set_option maxRecDepth 20000

set_option maxHeartbeats 4000000 in
theorem digits_c (n wide : Nat) (h1 : 1 ≤ wide) (h2 : n < 10 ^ wide) (h3 : wide ≤ 9) (w : World) (ht : TabOk w) :
    Calls Tryd.prog 41 #[.int .i64 n, .int .i64 wide] w (ExR (.string ⟨(digs wide n).toArray⟩) w) := by
  have hn : n < 10000000000 := Nat.lt_of_lt_of_le h2 (Nat.le_trans (Nat.pow_le_pow_right (by decide) h3) (by decide))
  have hI := Lib.hid (fun (w : World) (h : TabOk w) => itoa_c n hn w h)
  have hp := Lib.hid (pad_eq wide n h1 h2)
  obtain ⟨S, hS⟩ : ∃ S : ByteArray, S = ⟨(decDigits n).toArray⟩ := ⟨_, rfl⟩
  have hsz : S.size = (decDigits n).length := by rw [hS]; simp [ByteArray.size]
  have hle : S.size ≤ wide := by rw [hsz]; exact dec_le wide n h1 h2
  rw [← hS] at hI
  obtain ⟨R, hR0⟩ : ∃ R : ByteArray, R = ⟨(Lib.repeatL [48] (wide - S.size)).toArray⟩ := ⟨_, rfl⟩
  have hrz : R.size + S.size < 100 := by
    have : R.size = wide - S.size := by rw [hR0]; show (Lib.repeatL [48] (wide - S.size)).toArray.size = _; rw [List.size_toArray, Lib.repeatL_length]; show (wide - S.size) * 1 = _; omega
    omega
  have hR : Hid (∀ w, Calls Tryd.prog 56 #[.string ⟨#[48]⟩, .int .i64 ((wide : Int) - (S.size : Int))] w (ExR (.string R) w)) := Lib.hid (fun w => by
    rw [hR0, show (wide : Int) - (S.size : Int) = ((wide - S.size : Nat) : Int) by omega]
    exact repeat_c _ (by omega) w)
  have HS := Lib.hid hS
  have HZ := Lib.hid hsz
  have HR := Lib.hid hR0
  clear hS hsz h2 hn hR0
  go_enter Tryd.func41, Tryd.ntmps41
  go_wp2_with (first
    | (go_at_call 55; go_must (refine (hI.out _ ht).mono ?_; rintro e w1 ⟨rfl, hw⟩))
    | (go_at_call 56; go_must (refine (hR.out _).mono ?_; rintro e w2 ⟨rfl, hx⟩; replace hw := hw.trans hx)))
  go_ret
  refine ⟨?_, hw⟩
  rw [← hp.out, ← HZ.out, ← bytes_add, ← HR.out, ← HS.out]
  rfl

theorem conv_back (l : List UInt8) (cs : Array Value) (hcs : ∀ j (hj : j < l.length), cs[j]? = some (.int .u8 (l[j].toNat : Int))) (n : Nat) (hn : l.length = n) (c : Nat) (w : World) :
    (convert 86 9 (.slice (some ⟨w.heap.size, 0, none⟩) n c)).run Tryd.prog (w.alloc (.cells cs 5)) = .ok (.string ⟨l.toArray⟩) (w.alloc (.cells cs 5)) := by
  subst hn
  refine run_convert_bytes_back (w.alloc (.cells cs 5)) 86 9 5 ⟨w.heap.size, 0, none⟩ c l Tryd.underlying86 Tryd.underlying5 Tryd.underlying9 (fun j hj => ?_)
  rw [show (⟨w.heap.size, 0, none⟩ : Addr).add j = ⟨w.heap.size, j, none⟩ by simp [Addr.add]; omega]
  rw [World.cell?_alloc_mark]
  exact hcs j hj
theorem conv_dig (m : Nat) (w : World) : (convert 86 9 (.slice (some ⟨w.heap.size, 0, none⟩) 1 1)).run Tryd.prog (w.alloc (.cells #[.int .u8 (48 + (m : Int) % 10)] 5)) =
    .ok (.string ⟨#[UInt8.ofNat (48 + m % 10)]⟩) (w.alloc (.cells #[.int .u8 (48 + (m : Int) % 10)] 5)) := by
  refine conv_back [UInt8.ofNat (48 + m % 10)] _ (fun j hj => ?_) 1 rfl 1 w
  obtain rfl : j = 0 := by simp at hj; omega
  have : m % 10 < 10 := Nat.mod_lt _ (by decide)
  simp
  omega

set_option maxHeartbeats 4000000 in
theorem refDigits_c (n wide : Nat) (h3 : wide ≤ 9) (h2 : n < 10000000000) (w : World) :
    Calls Tryd.prog 43 #[.int .i64 n, .int .i64 wide] w (ExR (.string ⟨(digs wide n).toArray⟩) w) := by
  obtain ⟨Z, hZ⟩ : ∃ Z, Z = digs wide n := ⟨_, rfl⟩
  rw [← hZ]
  have HZ := Lib.hid hZ
  clear hZ
  go_enter Tryd.func43, Tryd.ntmps43
  go_wp2_with fail
  go_loopw [0, 5, 6] (fun nv ov iv wr => ∃ (m i : Nat) (o : ByteArray), nv = .int .i64 m ∧ ov = .string o ∧ o.size = i ∧ iv = .int .i64 i ∧ i ≤ wide ∧ m < 10000000000 ∧ Z = digs (wide - i) m ++ o.data.toList ∧ Ext w wr) (fun nv ov iv _ => wide - (RowKit.intOf iv).toNat)
  case atStart => exact ⟨n, 0, ByteArray.empty, rfl, rfl, rfl, rfl, by omega, h2, by rw [HZ.out]; simp, Ext.refl _⟩
  case round =>
    obtain ⟨m, i, o, rfl, rfl, hoz, rfl, hi, hm, hz, hw⟩ := hrel
    have HZ2 := Lib.hid hz
    clear hz HZ
    rcases Nat.lt_or_ge i wide with hlt | hge
    · have CV := conv_dig m wr
      obtain ⟨B, hB⟩ : ∃ B : ByteArray, B = ⟨#[UInt8.ofNat (48 + m % 10)]⟩ := ⟨_, rfl⟩
      have hbz : B.size = 1 := by rw [hB]; rfl
      rw [← hB] at CV
      have HB := Lib.hid hB
      clear hB
      have hlim : ¬ 9223372036854775807 < B.size + o.size := by omega
      go_wp2_with fail
      go_roundw
      case rel => 
        refine ⟨m / 10, i + 1, B ++ o, by simp, rfl, by rw [ByteArray.size_append]; omega, by simp, by omega, by omega, ?_, by repeat (first | exact hw | refine Ext.alloc ?_ _)⟩
        rw [HZ2.out, show wide - i = (wide - (i + 1)) + 1 by omega, digs, HB.out]
        simp
      case measure => simp [RowKit.intOf]; omega
    · have he : i = wide := by omega
      subst he
      go_wp2_with fail
      go_ret
      refine ⟨?_, hw⟩
      rw [HZ2.out, Nat.sub_self]
      simp [digs]
end Go.Proofs.YteebbcdbkkliaaaDoor
