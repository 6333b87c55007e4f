/- Walks: of which place a point of paper is: the reference's, too far east; both, joined. -/
import Derived.Test.YtopedblojfnlnaaGreatDoorO1
namespace Go.Proofs.YtopedblojfnlnaaGreatDoor
open Go.RowKit Go.Fp Go.Rel
set_option maxRecDepth 20000

set_option maxHeartbeats 8000000 in
theorem off_far {s : ByteArray} {n : Nat} (h : KindIs s n) (a f : Nat) (mid : Int) (sc x y : Nat) (w : World) (hk : papP (okG a f) n sc = 0) (hn : n = 0 ∨ n = 1) (hx : btw x m1e8 c1e8 = true) (hy : btw y m1e8 c1e8 = true) (hf : farQ (eastQ a sc (can x)) = true) :
    Calls Tryz.prog 23 #[paperV a f s mid sc, flatV x y] w (ExR (.tuple #[placeW 0 0, .int .i64 4]) w) := by
  have HPE := Lib.hid (fun (w : World) => paperError_c h a f mid sc w)
  rw [hk] at HPE
  have HBX := Lib.hid (between_c x m1e8 c1e8)
  have HBY := Lib.hid (between_c y m1e8 c1e8)
  rw [hx] at HBX
  rw [hy] at HBY
  have tk1 : Hid True := trivial
  have HF : Hid (∀ rx, can rx = eastQ a sc (can x) → (FloatKind.f64.format.order rx c32 == some .gt) = true ∨ ((FloatKind.f64.format.order rx c32 == some .gt) = false ∧ (FloatKind.f64.format.order rx m32 == some .lt) = true)) := Lib.hid (fun rx h => far_yes h hf)
  have tk2 : Hid True := trivial
  clear hx hy hk hf
  cases h
  case pol => omega
  case not => omega
  all_goals
    clear hn
    go_enter Tryz.func23, Tryz.ntmps23
    go_wp2_with (first
      | (go_at_call 67; go_must (refine (HPE.out _).mono ?_; rintro e w1 ⟨rfl, hx⟩; obtain ⟨hb1, hb2, hb3, hw⟩ := ext3 hx; have c1 := hb1.cell; have c2 := hb2.cell; clear hx))
      | (go_at_call 43; clear tk1; go_must (refine (HBX.out _).mono ?_; rintro e w2 ⟨rfl, hx⟩; replace hw := hw.trans (bareN hx rfl rfl rfl rfl); replace hb3 := hb3.ext (bareN hx rfl rfl rfl rfl); replace hb2 := hb2.ext (bareN hx rfl rfl rfl rfl); replace hb1 := hb1.ext (bareN hx rfl rfl rfl rfl); clear c1 c2 hx; have c1 := hb1.cell; have c2 := hb2.cell))
      | (go_at_call 43; go_must (refine (HBY.out _).mono ?_; rintro e w2 ⟨rfl, hx⟩; replace hw := hw.trans (bareN hx rfl rfl rfl rfl); replace hb3 := hb3.ext (bareN hx rfl rfl rfl rfl); replace hb2 := hb2.ext (bareN hx rfl rfl rfl rfl); replace hb1 := hb1.ext (bareN hx rfl rfl rfl rfl); clear c1 c2 hx; have c1 := hb1.cell; have c2 := hb2.cell))
      | (go_at_call 52; go_must (refine (normOf_c _ _).mono ?_; rintro e w2 ⟨rfl, rfl⟩))
      | (clear tk2; with_reducible refine upon_fl rfl ?_; intro ra na hra))
    refine upon_fl rfl ?_
    intro rx nx hrx
    have HQ := HF.out rx (by rw [hrx, hra]; rfl)
    clear hrx HF
    rcases HQ with o5 | ⟨o5, o6⟩
    all_goals
      go_wp2_with (first
        | (refine wpList_own rfl 31 _ _ rfl _ _ rfl rfl _ _ hb3 (by kernel_rfl) rfl (by simp [Value.oneCell']) ?_; go_must (intro u bn en sn; replace hw := en w (by repeat (first | exact hw | refine Ext.drewN ?_ _)) (by omega); have kc := bn.cell; clear sn en hb3)))
      exact bodyPost_ret (v := .tuple #[placeW 0 0, .int .i64 4]) (by simp [results, Tryz.results23, go_sem, kc]) rfl ⟨rfl, hw⟩

/-- what both answer, whatever the paper and the point -/
theorem from_off {s : ByteArray} {n : Nat} (h : KindIs s n) (a f : Nat) (mid : Int) (sc x y : Nat) : ∃ (K lon lat : Int), (K = 0 → okG a f = true) ∧ (∀ (A : Nat → Addr) (w : World), World8 A w → Calls Tryz.prog 22 #[paperV a f s mid sc, flatV x y] w (FromR A K lon lat w)) ∧
    (∀ w, Calls Tryz.prog 23 #[paperV a f s mid sc, flatV x y] w (ExR (.tuple #[placeW lon lat, .int .i64 K]) w)) := by
  have hp : 0 < papP (okG a f) n sc ∨ papP (okG a f) n sc = 0 ∧ n ≠ 3 := by
    rcases papP_cases (okG a f) n sc with ⟨h, h3⟩ | h | h
    · exact .inr ⟨h, h3⟩
    · exact .inl (by omega)
    · exact .inl (by omega)
  have hok : papP (okG a f) n sc = 0 → okG a f = true := by
    intro h0
    unfold papP at h0
    cases hg : okG a f with
    | true => rfl
    | false => rw [hg] at h0; simp at h0
  rcases hp with hk | ⟨hk, h3⟩
  · exact ⟨_, 0, 0, fun h0 => by omega, fun A w h8 => from_bad h a f mid sc x y w h8 hk, fun w => off_bad h a f mid sc x y w hk⟩
  · cases ho : (btw x m1e8 c1e8 && btw y m1e8 c1e8) with
    | false => exact ⟨4, 0, 0, fun h0 => by omega, fun A w h8 => from_out h a f mid sc x y w h8 hk ho, fun w => off_out h a f mid sc x y w hk ho⟩
    | true =>
      rw [Bool.and_eq_true] at ho
      obtain ⟨hx, hy⟩ := ho
      obtain ⟨r, hr⟩ := lat_some (fromG n a f sc) (fromY n a f sc x y) _ (-89000000000) 89000000001 (Nat.le_refl _)
      cases h
      case not => exact absurd rfl h3
      case pol => exact ⟨0, fromLon 2 a sc x y mid, r, fun _ => hok hk, fun A w h8 => from_pol a f mid sc x y r w h8 hk hx hy hr, fun w => off_pol a f mid sc x y r w hk hx hy hr⟩
      case mer =>
        cases hf : farQ (eastQ a sc (can x)) with
        | true => exact ⟨4, 0, 0, fun h0 => by omega, fun A w h8 => from_far .mer a f mid sc x y w h8 hk (.inl rfl) hx hy hf, fun w => off_far .mer a f mid sc x y w hk (.inl rfl) hx hy hf⟩
        | false => exact ⟨0, fromLon 0 a sc x y mid, r, fun _ => hok hk, fun A w h8 => from_mer a f mid sc x y r w h8 hk hx hy hf hr, fun w => off_mer a f mid sc x y r w hk hx hy hf hr⟩
      case equ =>
        cases hf : farQ (eastQ a sc (can x)) with
        | true => exact ⟨4, 0, 0, fun h0 => by omega, fun A w h8 => from_far .equ a f mid sc x y w h8 hk (.inr rfl) hx hy hf, fun w => off_far .equ a f mid sc x y w hk (.inr rfl) hx hy hf⟩
        | false => exact ⟨0, fromLon 1 a sc x y mid, r, fun _ => hok hk, fun A w h8 => from_equ a f mid sc x y r w h8 hk hx hy hf hr, fun w => off_equ a f mid sc x y r w hk hx hy hf hr⟩
end Go.Proofs.YtopedblojfnlnaaGreatDoor
