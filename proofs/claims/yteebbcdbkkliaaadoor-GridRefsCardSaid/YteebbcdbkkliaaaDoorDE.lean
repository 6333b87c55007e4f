/- Walks: the square in which a reference lies: package grid's. -/
import Derived.Test.YteebbcdbkkliaaaDoorDD
import Derived.Test.YteebbcdbkkliaaaDoorZD
namespace Go.Proofs.YteebbcdbkkliaaaDoor
open Go.RowKit Go.Fp Go.Rel Go.Lib
set_option maxRecDepth 20000

/-- so many digits of a number within a square -/
def partD (n many : Nat) : List UInt8 := digs many (n % 100000 / 10 ^ (5 - many))
theorem ba_take (l : List UInt8) (k : Nat) (_ : k ≤ l.length) : (⟨l.toArray⟩ : ByteArray).extract 0 k = ⟨(l.take k).toArray⟩ := by
  apply ByteArray.ext
  simp [ByteArray.data_extract]
set_option maxHeartbeats 4000000 in
theorem part_c (n many b : Nat) (hm : many ≤ 5) (w : World) (ht : TabOk w) (hb : Blk w b 3 #[.int .i64 many]) :
    Calls Tryd.prog 46 #[.int .i64 n, .pointer (some ⟨b, 0, none⟩)] w (ExR (.string ⟨(partD n many).toArray⟩) w) := by
  obtain ⟨S, hS⟩ : ∃ S : ByteArray, S = ⟨(digs 5 (n % 100000)).toArray⟩ := ⟨_, rfl⟩
  have hsz : S.size = 5 := by rw [hS]; show (digs 5 (n % 100000)).toArray.size = 5; rw [List.size_toArray, digs_length]
  have HD : Hid (∀ w, TabOk w → Calls Tryd.prog 41 #[.int .i64 ((n : Int) % 100000), .int .i64 5] w (ExR (.string S) w)) := Lib.hid (fun w ht => by
    rw [hS]
    exact digits_c (n % 100000) 5 (by decide) (by omega) (by decide) w ht)
  have SL : ∀ w, (Instr.slice 9 (.string S) none (some (.int .i64 (many : Int))) none).run Tryd.prog w = .ok (.string (S.extract 0 many)) w := fun w => by
    rw [run_slice_string_h w 9 S Tryd.underlying9 .i64 (many : Int) (by omega) (by omega)]; rfl
  have HS := Lib.hid hS
  clear hS
  go_enter Tryd.func46, Tryd.ntmps46
  go_wp2_with fail
  refine wp_region_all (fun g args v => g = 41 ∧ v = .string S) (by kernel_rfl) (by kernel_rfl) ?_
  repeat (first
    | (refine wpR_op rfl (fun w9 hw9 K hK => ?_); have k1 := (hb.ext (bareN hw9 rfl rfl rfl rfl)).cell; go_simp; refine hK _ ?_; clear hK K k1 hw9 w9)
    | (refine wpR_op rfl (fun w9 hw9 K hK => ?_); go_simp; refine rel_call (ExR.call (HD.out _ (ht.ext (bareN hw9 rfl rfl rfl rfl)))) (fun v => ?_) (fun v hv => ?_); (simp); subst hv; refine hK _ ?_; clear hK K hw9 w9)
    | (refine wpR_op rfl (fun w9 hw9 K hK => ?_); go_simp; refine hK _ ?_; clear hK K hw9 w9))
  refine wpR_nil ?_
  intro w8 hx8 _

  go_wp2_with fail
  go_ret
  refine ⟨?_, bareN hx8 rfl rfl rfl rfl⟩
  rw [HS.out, ba_take _ _ (by rw [digs_length]; omega), show (5 : Nat) = many + (5 - many) by omega, digs_take, show many + (5 - many) = 5 by omega]
  rfl
end Go.Proofs.YteebbcdbkkliaaaDoor
