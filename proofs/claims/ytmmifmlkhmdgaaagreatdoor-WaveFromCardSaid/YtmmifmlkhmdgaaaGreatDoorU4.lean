/- Walks: where a place is on the ball that lies along the meridian: the reference's TurnednessOf. -/
import Derived.Test.YtmmifmlkhmdgaaaGreatDoorU3
import Derived.Test.YtmmifmlkhmdgaaaGreatDoorY1
namespace Go.Proofs.YtmmifmlkhmdgaaaGreatDoor
open Go.RowKit Go.Fp Go.Rel
set_option maxRecDepth 20000

set_option maxHeartbeats 8000000 in
theorem turned_ok (a f : Nat) (mid : Int) (sc : Nat) (lon lat : Int) (w : World) (hk : strP (okG a f) sc = 0) (hl : lookK 0 lat (signP (dS mid lon)) = 0) :
    Calls Tryz.prog 14 #[stripV a f mid sc, placeU lon lat] w (fun e w' => ∃ t v, e = .returned (.tuple #[wideV t (dS mid lon) (uS f lat (dS mid lon)) v, .int .i64 0]) ∧ can t = tS f lat ∧ can v = vS f lat (dS mid lon) ∧ Ext w w') := by
  have HC := Lib.hid (stripError_c a f mid sc)
  rw [hk] at HC
  clear hk
  have W1 := dS_wrap mid lon
  obtain ⟨d, hd⟩ : ∃ d, d = dS mid lon := ⟨_, rfl⟩
  rw [← hd] at W1 hl ⊢
  obtain ⟨off, hoff⟩ : ∃ o, o = signP d := ⟨_, rfl⟩
  have W2 := hoff.symm
  rw [← hoff] at hl
  have hr : ¬ 89000000000 < lat ∧ ¬ lat < -89000000000 ∧ ¬ 45000000000 < off ∧ ¬ off < -45000000000 := by
    unfold lookK at hl
    rw [if_neg (by decide)] at hl
    split at hl
    · cases hl
    · omega
  obtain ⟨r1, r2, r3, r4⟩ := hr
  clear hl hoff hd
  have tkA : Hid True := trivial
  have tkB : Hid True := trivial
  have tkC : Hid True := trivial
  go_enter Tryz.func14, Tryz.ntmps14
  go_wp2_with (first
    | (go_at_call 11; go_must (refine (HC.out _).mono ?_; rintro e w1 ⟨rfl, hx⟩; obtain ⟨hb1, hb2, hb3, hw⟩ := ext3 hx; have c1 := hb1.cell; have c2 := hb2.cell; clear hx)))
  clear c1 c2
  refine wp_region_all (fun g args v => g = 43 ∧ SpI normP args v) (by kernel_rfl) (by kernel_rfl) ?_
  repeat (first
    | (refine wpR_op rfl (fun w9 hw9 K hK => ?_); have k1 := (hb1.ext (bareN hw9 rfl rfl rfl rfl)).cell; have k2 := (hb2.ext (bareN hw9 rfl rfl rfl rfl)).cell; go_simp; refine hK _ ?_; clear hK K k1 k2 hw9 w9)
    | (refine wpR_op rfl (fun w9 hw9 K hK => ?_); go_simp; refine rel_call (call_same (normOf_c _ _)) (fun v => ?_) (fun v hv => ?_); (simp [spI_iff]); subst hv; refine hK _ ?_; clear hK K hw9 w9))
  refine wpR_nil ?_
  intro w8 hx8 _
  replace hw := hw.trans (bareN hx8 rfl rfl rfl rfl)
  replace hb3 := hb3.ext (bareN hx8 rfl rfl rfl rfl)
  replace hb2 := hb2.ext (bareN hx8 rfl rfl rfl rfl)
  replace hb1 := hb1.ext (bareN hx8 rfl rfl rfl rfl)
  clear hx8
  have c1 := hb1.cell
  have c2 := hb2.cell
  go_wp2_with (first
    | (go_at_call 41; go_must (refine (signedAngle_c _ _).mono ?_; rintro e w2 ⟨rfl, hx⟩; replace hw := hw.trans (bareN hx rfl rfl rfl rfl); replace hb3 := hb3.ext (bareN hx rfl rfl rfl rfl); replace hb2 := hb2.ext (bareN hx rfl rfl rfl rfl); replace hb1 := hb1.ext (bareN hx rfl rfl rfl rfl); clear c1 c2 hx; have c1 := hb1.cell; have c2 := hb2.cell))
    | (go_at_call 52; go_must (refine (isoOf_c a f lat _).mono ?_; rintro e w2 ⟨i1, rfl, hi1, hx⟩; replace hw := hw.trans (bareN hx rfl rfl rfl rfl); replace hb3 := hb3.ext (bareN hx rfl rfl rfl rfl); replace hb2 := hb2.ext (bareN hx rfl rfl rfl rfl); replace hb1 := hb1.ext (bareN hx rfl rfl rfl rfl); clear c1 c2 hx; have c1 := hb1.cell; have c2 := hb2.cell))
    | (go_at_call 38; go_must (refine (expOf_c _ _).mono ?_; rintro e w2 ⟨p, rfl, hp, hx⟩; rw [← expP_can, hi1] at hp; replace hw := hw.trans (bareN hx rfl rfl rfl rfl); replace hb3 := hb3.ext (bareN hx rfl rfl rfl rfl); replace hb2 := hb2.ext (bareN hx rfl rfl rfl rfl); replace hb1 := hb1.ext (bareN hx rfl rfl rfl rfl); clear c1 c2 hx; have c1 := hb1.cell; have c2 := hb2.cell))
    | (go_at_call 39; go_must (refine (sincos_c _ _).mono ?_; rintro e w2 ⟨rfl, rfl⟩))
    | (go_at_call 40; go_must (refine (plus_c _ _ _ _).mono ?_; rintro e w2 ⟨pl, rfl, hpl, hx⟩; replace hw := hw.trans (bareN hx rfl rfl rfl rfl); replace hb3 := hb3.ext (bareN hx rfl rfl rfl rfl); replace hb2 := hb2.ext (bareN hx rfl rfl rfl rfl); replace hb1 := hb1.ext (bareN hx rfl rfl rfl rfl); clear c1 c2 hx; have c1 := hb1.cell; have c2 := hb2.cell))
    | (go_at_call 28; go_must (refine (sqrt_c _ _).mono ?_; rintro e w2 ⟨q, rfl, hq, hx⟩; replace hw := hw.trans (bareN hx rfl rfl rfl rfl); replace hb3 := hb3.ext (bareN hx rfl rfl rfl rfl); replace hb2 := hb2.ext (bareN hx rfl rfl rfl rfl); replace hb1 := hb1.ext (bareN hx rfl rfl rfl rfl); clear c1 c2 hx; have c1 := hb1.cell; have c2 := hb2.cell))
    | (go_at_call 42; go_must (refine (refAngle_c _ _ _).mono ?_; rintro e w2 ⟨rfl, hx⟩; replace hw := hw.trans (bareN hx rfl rfl rfl rfl); replace hb3 := hb3.ext (bareN hx rfl rfl rfl rfl); replace hb2 := hb2.ext (bareN hx rfl rfl rfl rfl); replace hb1 := hb1.ext (bareN hx rfl rfl rfl rfl); clear c1 c2 hx; have c1 := hb1.cell; have c2 := hb2.cell))
    | (go_at_call 45; go_must (refine (sinhBack_c _ _).mono ?_; rintro e w2 ⟨v, rfl, hv, hx⟩; replace hw := hw.trans (bareN hx rfl rfl rfl rfl); replace hb3 := hb3.ext (bareN hx rfl rfl rfl rfl); replace hb2 := hb2.ext (bareN hx rfl rfl rfl rfl); replace hb1 := hb1.ext (bareN hx rfl rfl rfl rfl); clear c1 c2 hx; have c1 := hb1.cell; have c2 := hb2.cell))
    | (refine wpList_own rfl 51 _ _ rfl _ _ rfl rfl _ _ hb3 (by kernel_rfl) rfl (by simp [Value.oneCell']) ?_; go_must (intro u bn en sn; replace hw := en w (by repeat (first | exact hw | refine Ext.drewN ?_ _)) (by omega); have kc := bn.cell; clear sn en hb3))
    | (clear tkA; with_reducible refine upon_fl rfl ?_; intro rA nA hrA)
    | (clear tkB; with_reducible refine upon_fl rfl ?_; intro rB nB hrB)
    | (clear tkC; (with_reducible refine upon_fl rfl ?_); go_must (intro t nT ht; have ht' : can t = tS f lat := (by rw [ht, hrB, hrA, hp]; rfl); clear ht hrA hrB hp))
    | (with_reducible refine upon_fl rfl ?_; intro r n hr))
  refine bodyPost_ret (v := .tuple #[wideV t d (uS f lat d) v, .int .i64 0]) (by simp [results, Tryz.results14, go_sem, kc]; rfl) rfl ⟨t, v, rfl, ht', ?_, hw⟩
  rw [hv]
  simp only [*, fbin, vS]
end Go.Proofs.YtmmifmlkhmdgaaaGreatDoor
