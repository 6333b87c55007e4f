/- The walk of the statement GridRefs: joined. -/
import Derived.Test.YteebbcdbkkliaaaDoorCM
import Derived.Test.YteebbcdbkkliaaaDoorCR
namespace Go.Proofs.YteebbcdbkkliaaaDoor
open Go.RowKit Go.Fp Go.Rel Go.Lib
set_option maxRecDepth 20000

set_option maxHeartbeats 4000000 in
theorem square_neg {A : Nat → Addr} (z : Int) (s : Bool) (e n many : Int) (h : OkRef z e n) (hm : many < 0) (w : World) (hW : WorldG A w) :
    Calls Tryd.prog 24 #[refV z s e n, .int .i64 many] w (ExR (.tuple #[.string ⟨#[]⟩, errV (A 2)]) w) := by
  have HV := Lib.hid (fun w => refValid_ok z s e n h w)
  clear h
  go_enter Tryd.func24, Tryd.ntmps24
  go_wp2_with (first
    | (go_at_call 20; go_must (refine (HV.out _).mono ?_; rintro e w1 ⟨rfl, hx⟩; obtain ⟨hb1, hb2, hw⟩ := ext2 hx; clear hx; have c1 := hb1.cell; have c2 := hb2.cell; have kg := (hW.ext hw).shp)))
  clear hb1 hb2 c1 c2
  go_region
  all_goals go_wp2_with fail
  all_goals exact bodyPost_ret (v := .tuple #[.string ⟨#[]⟩, errV (A 2)]) (by simp [results, Tryd.results24, go_sem]) rfl ⟨rfl, (by repeat (first | exact hw | refine Ext.drew ?_))⟩
set_option maxHeartbeats 4000000 in
theorem squareText_neg (z : Int) (s : Bool) (e n many : Int) (h : OkRef z e n) (hm : many < 0) (w : World) :
    Calls Tryd.prog 25 #[refV z s e n, .int .i64 many] w (ExR (.tuple #[.string ⟨#[]⟩, .int .i64 3]) w) := by
  have HV := Lib.hid (fun w => refError_ok z s e n h w)
  clear h
  go_enter Tryd.func25, Tryd.ntmps25
  go_wp2_with (first
    | (go_at_call 42; go_must (refine (HV.out _).mono ?_; rintro e w1 ⟨rfl, hx⟩; obtain ⟨hb1, hw⟩ := ext1 hx; clear hx; have c1 := hb1.cell)))
  refine bodyPost_ret (v := .tuple #[.string ⟨#[]⟩, .int .i64 3]) (by simp [results, Tryd.results25, go_sem]) rfl ⟨rfl, hw⟩
theorem sqS_size (e n k : Nat) : (⟨(sqS e n k).toArray⟩ : ByteArray).size = 2 * k + 2 := by
  show (sqS e n k).toArray.size = _
  simp [sqS, partD_length]
  omega
set_option maxHeartbeats 4000000 in
theorem gridRefs_long (lon zone z : Int) (s : Bool) (e n : Int) (T : ByteArray) (many : Int) (hT : T.size ≤ 9223372036854775807) (h : 200 < T.size) (w : World) :
    Calls Tryd.prog 4 #[.int .i64 lon, .int .i64 zone, refV z s e n, .string T, .int .i64 many] w (ExR (.bool true) w) := by
  have e1 : (200 : Int) < (T.size : Int) := by omega
  go_enter Tryd.func4, Tryd.ntmps4
  go_wp2_with (first
    | (go_at_call 12; go_must (refine (zoned_c _).mono ?_; rintro e w1 ⟨rfl, hx⟩; obtain ⟨hb1, hw⟩ := ext1 hx; clear hx)))
  go_ret
  exact ⟨rfl, hw⟩
theorem gridRefs_walk {A : Nat → Addr} (lon zone z : Int) (s : Bool) (e n : Int) (T : ByteArray) (many : Int) (hT : T.size ≤ 9223372036854775807) (w : World) (hW : WorldG A w) (hTx : TextG A w) (h8 : World8 A w) :
    Calls Tryd.prog 4 #[.int .i64 lon, .int .i64 zone, refV z s e n, .string T, .int .i64 many] w (ExR (.bool true) w) := by
  rcases Nat.lt_or_ge 200 T.size with hbig | hsm
  · exact gridRefs_long lon zone z s e n T many hT hbig w
  obtain ⟨z2, s2, e2, n2, k, o, hr1, hr2⟩ := read_both (A := A) T
  by_cases ho : OkRef z e n
  · have ho2 := ho
    obtain ⟨h1, h2, h3, h4, h6, h7⟩ := ho
    obtain ⟨z', rfl⟩ : ∃ k : Nat, z = k := ⟨z.toNat, by omega⟩
    obtain ⟨e', rfl⟩ : ∃ k : Nat, e = k := ⟨e.toNat, by omega⟩
    obtain ⟨n', rfl⟩ : ∃ k : Nat, n = k := ⟨n.toNat, by omega⟩
    have t1 := Lib.hid (fun w hW => text_ok (A := A) z' s e' n' (by omega) (by omega) (by omega) (by omega) w hW)
    have t2 := Lib.hid (fun w => refText_ok z' s e' n' (by omega) (by omega) (by omega) (by omega) w)
    have t3 : Hid (∀ w, WorldG A w → Calls Tryd.prog 20 #[refV z' s e' n'] w (ExR .nilIface w)) := Lib.hid (fun w _ => refValid_ok z' s e' n' ho2 w)
    have t4 := Lib.hid (fun w hW hT => read_print (A := A) z' s e' n' (by omega) (by omega) (by omega) (by omega) w hW hT)
    by_cases hm : many < 0 ∨ 5 < many
    · have q1 : Hid (∀ w, WorldG A w → Calls Tryd.prog 24 #[refV z' s e' n', .int .i64 many] w (ExR (.tuple #[.string ⟨#[]⟩, errV (A 2)]) w)) := Lib.hid (fun w hW => by
        rcases hm with hm | hm
        · exact square_neg z' s e' n' many ho2 hm w hW
        · exact square_many z' s e' n' many ho2 hm w hW)
      have q2 : Hid (∀ w, Calls Tryd.prog 25 #[refV z' s e' n', .int .i64 many] w (ExR (.tuple #[.string ⟨#[]⟩, .int .i64 3]) w)) := Lib.hid (fun w => by
        rcases hm with hm | hm
        · exact squareText_neg z' s e' n' many ho2 hm w
        · exact squareText_many z' s e' n' many ho2 hm w)
      by_cases hz : 1 ≤ zone ∧ zone ≤ 60
      · exact gr_in_0_3 lon zone z' s e' n' T many _ _ z2 s2 e2 n2 k o hsm hz.1 hz.2 w hW hTx h8 t1 t2 t3 (Lib.hid hr1) (Lib.hid hr2) q1 q2 t4
      · by_cases hz1 : zone < 1
        · exact gr_lo_0_3 lon zone z' s e' n' T many _ _ z2 s2 e2 n2 k o hsm hz1 w hW hTx h8 t1 t2 t3 (Lib.hid hr1) (Lib.hid hr2) q1 q2 t4
        · exact gr_hi_0_3 lon zone z' s e' n' T many _ _ z2 s2 e2 n2 k o hsm (by omega) w hW hTx h8 t1 t2 t3 (Lib.hid hr1) (Lib.hid hr2) q1 q2 t4
    · obtain ⟨m, rfl⟩ : ∃ k : Nat, many = k := ⟨many.toNat, by omega⟩
      have q1 := Lib.hid (fun w hW => square_ok (A := A) z' s e' n' m h1 h2 (by omega) (by omega) (by omega) w hW)
      have q2 := Lib.hid (fun w => squareText_ok z' s e' n' m h1 h2 (by omega) (by omega) (by omega) w)
      have q3 : Hid (∀ w, WorldG A w → Calls Tryd.prog 26 #[refV z' s e' n', .string ⟨(sqS e' n' m).toArray⟩] w (ExR (.bool true) w)) := Lib.hid (fun w hW => by
        have := in_ok z' s e' n' ⟨(sqS e' n' m).toArray⟩ m (sqS_size e' n' m) h1 h2 (by omega) (by omega) (by omega) _ rfl w hW
        rwa [beq_self_eq_true] at this)
      by_cases hz : 1 ≤ zone ∧ zone ≤ 60
      · exact gr_in_0_0 lon zone z' s e' n' T m _ _ z2 s2 e2 n2 k o hsm hz.1 hz.2 w hW hTx h8 t1 t2 t3 (Lib.hid hr1) (Lib.hid hr2) q1 q2 q3 t4
      · by_cases hz1 : zone < 1
        · exact gr_lo_0_0 lon zone z' s e' n' T m _ _ z2 s2 e2 n2 k o hsm hz1 w hW hTx h8 t1 t2 t3 (Lib.hid hr1) (Lib.hid hr2) q1 q2 q3 t4
        · exact gr_hi_0_0 lon zone z' s e' n' T m _ _ z2 s2 e2 n2 k o hsm (by omega) w hW hTx h8 t1 t2 t3 (Lib.hid hr1) (Lib.hid hr2) q1 q2 q3 t4
  · have t1 := Lib.hid (fun w hW => text_bad (A := A) z s e n ho w hW)
    have t2 := Lib.hid (fun w => refText_bad z s e n ho w)
    have t3 := Lib.hid (fun w hW => refValid_bad (A := A) z s e n ho w hW)
    have q1 := Lib.hid (fun w hW => square_bad (A := A) z s e n many ho w hW)
    have q2 := Lib.hid (fun w => squareText_bad z s e n many ho w)
    by_cases hz : 1 ≤ zone ∧ zone ≤ 60
    · exact gr_in_4_4 lon zone z s e n T many _ _ z2 s2 e2 n2 k o hsm hz.1 hz.2 w hW hTx h8 t1 t2 t3 (Lib.hid hr1) (Lib.hid hr2) q1 q2
    · by_cases hz1 : zone < 1
      · exact gr_lo_4_4 lon zone z s e n T many _ _ z2 s2 e2 n2 k o hsm hz1 w hW hTx h8 t1 t2 t3 (Lib.hid hr1) (Lib.hid hr2) q1 q2
      · exact gr_hi_4_4 lon zone z s e n T many _ _ z2 s2 e2 n2 k o hsm (by omega) w hW hTx h8 t1 t2 t3 (Lib.hid hr1) (Lib.hid hr2) q1 q2
end Go.Proofs.YteebbcdbkkliaaaDoor
