/- Walks: the square in which a reference lies: the reference's; squares that are none. -/
import Derived.Test.YteebbcdbkkliaaaDoorDF
namespace Go.Proofs.YteebbcdbkkliaaaDoor
open Go.RowKit Go.Fp Go.Rel Go.Lib
set_option maxRecDepth 20000

set_option maxHeartbeats 4000000 in
theorem square_bad {A : Nat → Addr} (z : Int) (s : Bool) (e n many : Int) (h : ¬ OkRef z e n) (w : World) (hW : WorldG A w) :
    Calls Tryd.prog 24 #[refV z s e n, .int .i64 many] w (ExR (.tuple #[.string ⟨#[]⟩, errV (A 0)]) w) := by
  have HV := Lib.hid (fun w hW => refValid_bad (A := A) z s e n h w hW)
  clear h
  go_enter Tryd.func24, Tryd.ntmps24
  go_wp2_with (first
    | (go_at_call 20; go_must (refine (HV.out _ (hW.ext (((Ext.refl w).alloc _).alloc _))).mono ?_; rintro e w1 ⟨rfl, hx⟩; obtain ⟨hb1, hb2, hw⟩ := ext2 hx; clear hx; have c1 := hb1.cell; have c2 := hb2.cell)))
  refine bodyPost_ret (v := .tuple #[.string ⟨#[]⟩, errV (A 0)]) (by simp [results, Tryd.results24, go_sem]) rfl ⟨rfl, hw⟩
set_option maxHeartbeats 4000000 in
theorem square_many {A : Nat → Addr} (z : Int) (s : Bool) (e n many : Int) (h : OkRef z e n) (hm : 5 < many) (w : World) (hW : WorldG A w) :
    Calls Tryd.prog 24 #[refV z s e n, .int .i64 many] w (ExR (.tuple #[.string ⟨#[]⟩, errV (A 2)]) w) := by
  have HV := Lib.hid (fun w => refValid_ok z s e n h w)
  clear h
  go_enter Tryd.func24, Tryd.ntmps24
  go_wp2_with (first
    | (go_at_call 20; go_must (refine (HV.out _).mono ?_; rintro e w1 ⟨rfl, hx⟩; obtain ⟨hb1, hb2, hw⟩ := ext2 hx; clear hx; have c1 := hb1.cell; have c2 := hb2.cell; have kg := (hW.ext hw).shp)))
  clear hb1 hb2 c1 c2
  go_region
  all_goals go_wp2_with fail
  all_goals exact bodyPost_ret (v := .tuple #[.string ⟨#[]⟩, errV (A 2)]) (by simp [results, Tryd.results24, go_sem]) rfl ⟨rfl, (by repeat (first | exact hw | refine Ext.drew ?_))⟩
set_option maxHeartbeats 4000000 in
theorem squareText_bad (z : Int) (s : Bool) (e n many : Int) (h : ¬ OkRef z e n) (w : World) :
    Calls Tryd.prog 25 #[refV z s e n, .int .i64 many] w (ExR (.tuple #[.string ⟨#[]⟩, .int .i64 4]) w) := by
  have HV := Lib.hid (fun w => refError_bad z s e n h w)
  clear h
  go_enter Tryd.func25, Tryd.ntmps25
  go_wp2_with (first
    | (go_at_call 42; go_must (refine (HV.out _).mono ?_; rintro e w1 ⟨rfl, hx⟩; obtain ⟨hb1, hw⟩ := ext1 hx; clear hx; have c1 := hb1.cell)))
  refine bodyPost_ret (v := .tuple #[.string ⟨#[]⟩, .int .i64 4]) (by simp [results, Tryd.results25, go_sem]) rfl ⟨rfl, hw⟩
set_option maxHeartbeats 4000000 in
theorem squareText_many (z : Int) (s : Bool) (e n many : Int) (h : OkRef z e n) (hm : 5 < many) (w : World) :
    Calls Tryd.prog 25 #[refV z s e n, .int .i64 many] w (ExR (.tuple #[.string ⟨#[]⟩, .int .i64 3]) w) := by
  have HV := Lib.hid (fun w => refError_ok z s e n h w)
  clear h
  go_enter Tryd.func25, Tryd.ntmps25
  go_wp2_with (first
    | (go_at_call 42; go_must (refine (HV.out _).mono ?_; rintro e w1 ⟨rfl, hx⟩; obtain ⟨hb1, hw⟩ := ext1 hx; clear hx; have c1 := hb1.cell)))
  refine bodyPost_ret (v := .tuple #[.string ⟨#[]⟩, .int .i64 3]) (by simp [results, Tryd.results25, go_sem]) rfl ⟨rfl, hw⟩
end Go.Proofs.YteebbcdbkkliaaaDoor
