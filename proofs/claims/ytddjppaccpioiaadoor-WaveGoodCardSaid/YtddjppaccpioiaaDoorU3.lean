/- Walks: where a place is on the ball that lies along the meridian: package wave's look, the reference's TurnednessOf. -/
import Derived.Test.YtddjppaccpioiaaDoorU2
import Derived.Test.YtddjppaccpioiaaDoorU0
import Derived.Test.YtddjppaccpioiaaDoorZM
namespace Go.Proofs.YtddjppaccpioiaaDoor
open Go.RowKit Go.Fp Go.Rel
set_option maxRecDepth 20000

def SpI (f : Int → Int) (args : Array Value) (v : Value) : Prop := ∃ a : Int, args = #[.int .i64 a] ∧ v = .int .i64 (f a)
theorem spI_iff (f : Int → Int) (a : Int) (v : Value) : SpI f #[.int .i64 a] v ↔ v = .int .i64 (f a) := by
  unfold SpI
  exact ⟨fun ⟨_, h, k⟩ => by simp at h; obtain rfl := h; exact k, fun h => ⟨_, rfl, h⟩⟩
theorem call_same {P : Program} {f : FuncId} {args : Array Value} {v : Value} {W : World} (h : Calls P f args W (fun e w' => e = .returned v ∧ W = w')) : Calls P f args W (fun e w' => ∃ u, e = .returned u ∧ u = v ∧ Ext W w') :=
  h.mono fun _ _ ⟨he, hx⟩ => ⟨_, he, rfl, hx ▸ Ext.refl _⟩
/-- how far a place is from the middle; where it is on the ball that lies along -/
def dS (mid lon : Int) : Int := normP lon - normP mid
theorem dS_wrap (mid lon : Int) : IntKind.i64.wrap (normP lon - normP mid) = dS mid lon := IntWalk.i64_in _ ⟨by have := normP_lo lon; have := normP_hi mid; omega, by have := normP_hi lon; have := normP_lo mid; omega⟩
def tS (f : Nat) (lat : Int) : Nat := hypK (expP (isoP f lat))
def uS (f : Nat) (lat d : Int) : Int := signP (angleP (tS f lat) (can (cosP d))).1
def vS (f : Nat) (lat d : Int) : Nat := unP (fdiv (can (sinP d)) (fsqrt (fadd (fmul (tS f lat) (tS f lat)) (fmul (can (cosP d)) (can (cosP d))))))
/-- the error's number of a place on a strip -/
def lookK (k lat off : Int) : Int := if 0 < k then k else if 89000000000 < lat ∨ lat < -89000000000 ∨ 45000000000 < off ∨ off < -45000000000 then 4 else 0
abbrev wideV (t : Nat) (d u : Int) (v : Nat) : Value := .agg #[.float .f64 t, .int .i64 d, .int .i64 u, .float .f64 v]
theorem svalid_ok {A : Nat → Addr} (a f : Nat) (mid : Int) (sc : Nat) (hk : strP (okG a f) sc = 0) (w : World) (h8 : World8 A w) : Calls Tryd.prog 64 #[stripV a f mid sc] w (ExR .nilIface w) := by
  refine (svalid_c a f mid sc w h8).mono ?_
  rw [hk]
  rintro e w' ⟨v, rfl, hv, hx⟩
  cases hv
  exact ⟨rfl, hx⟩

set_option maxHeartbeats 8000000 in
theorem look_ok {A : Nat → Addr} (a f : Nat) (mid : Int) (sc : Nat) (lon lat : Int) (w : World) (h8 : World8 A w) (hk : strP (okG a f) sc = 0) (hl : lookK 0 lat (signP (dS mid lon)) = 0) :
    Calls Tryd.prog 58 #[stripV a f mid sc, placeU lon lat] w (fun e w' => ∃ t v, e = .returned (.tuple #[wideV t (dS mid lon) (uS f lat (dS mid lon)) v, .nilIface]) ∧ can t = tS f lat ∧ can v = vS f lat (dS mid lon) ∧ Ext w w') := by
  have HC := Lib.hid (fun w h8 => svalid_ok (A := A) a f mid sc hk w h8)
  clear hk
  have W1 := dS_wrap mid lon
  obtain ⟨d, hd⟩ : ∃ d, d = dS mid lon := ⟨_, rfl⟩
  rw [← hd] at W1 hl ⊢
  obtain ⟨off, hoff⟩ : ∃ o, o = signP d := ⟨_, rfl⟩
  have W2 := hoff.symm
  rw [← hoff] at hl
  have hr : ¬ 89000000000 < lat ∧ ¬ lat < -89000000000 ∧ ¬ 45000000000 < off ∧ ¬ off < -45000000000 := by
    unfold lookK at hl
    rw [if_neg (by decide)] at hl
    split at hl
    · cases hl
    · omega
  obtain ⟨r1, r2, r3, r4⟩ := hr
  clear hl hoff hd
  go_enter Tryd.func58, Tryd.ntmps58
  go_wp2_with (first
    | (go_at_call 64; go_must (refine (HC.out _ (h8.ext (by repeat (first | exact Ext.refl _ | refine Ext.alloc ?_ _)))).mono ?_; rintro e w1 ⟨rfl, hx⟩; obtain ⟨hb1, hb2, hb3, hw⟩ := ext3 hx; have c1 := hb1.cell; have c2 := hb2.cell; clear hx)))
  clear c1 c2
  refine wp_region_all (fun g args v => g = 42 ∧ SpI normP args v) (by kernel_rfl) (by kernel_rfl) ?_
  repeat (first
    | (refine wpR_op rfl (fun w9 hw9 K hK => ?_); have k1 := (hb1.ext (bareN hw9 rfl rfl rfl rfl)).cell; have k2 := (hb2.ext (bareN hw9 rfl rfl rfl rfl)).cell; go_simp; refine hK _ ?_; clear hK K k1 k2 hw9 w9)
    | (refine wpR_op rfl (fun w9 hw9 K hK => ?_); go_simp; refine rel_call (call_same (norm_c _ _)) (fun v => ?_) (fun v hv => ?_); (simp [spI_iff]); subst hv; refine hK _ ?_; clear hK K hw9 w9))
  refine wpR_nil ?_
  intro w8 hx8 _
  replace hw := hw.trans (bareN hx8 rfl rfl rfl rfl)
  replace hb3 := hb3.ext (bareN hx8 rfl rfl rfl rfl)
  replace hb2 := hb2.ext (bareN hx8 rfl rfl rfl rfl)
  replace hb1 := hb1.ext (bareN hx8 rfl rfl rfl rfl)
  clear hx8
  have c1 := hb1.cell
  have c2 := hb2.cell
  go_wp2_with (first
    | (go_at_call 41; go_must (refine (signed_c _ _).mono ?_; rintro e w2 ⟨rfl, hx⟩; replace hw := hw.trans (bareN hx rfl rfl rfl rfl); replace hb3 := hb3.ext (bareN hx rfl rfl rfl rfl); replace hb2 := hb2.ext (bareN hx rfl rfl rfl rfl); replace hb1 := hb1.ext (bareN hx rfl rfl rfl rfl); clear c1 c2 hx; have c1 := hb1.cell; have c2 := hb2.cell))
    | (go_at_call 71; go_must (refine (iso_c a f lat _).mono ?_; rintro e w2 ⟨i1, rfl, hi1, hx⟩; replace hw := hw.trans (bareN hx rfl rfl rfl rfl); replace hb3 := hb3.ext (bareN hx rfl rfl rfl rfl); replace hb2 := hb2.ext (bareN hx rfl rfl rfl rfl); replace hb1 := hb1.ext (bareN hx rfl rfl rfl rfl); clear c1 c2 hx; have c1 := hb1.cell; have c2 := hb2.cell))
    | (go_at_call 65; go_must (refine (hyper_c _ _).mono ?_; rintro e w2 ⟨hh, t, rfl, hhh, ht, hx⟩; replace hw := hw.trans (bareN hx rfl rfl rfl rfl); replace hb3 := hb3.ext (bareN hx rfl rfl rfl rfl); replace hb2 := hb2.ext (bareN hx rfl rfl rfl rfl); replace hb1 := hb1.ext (bareN hx rfl rfl rfl rfl); clear c1 c2 hx; have c1 := hb1.cell; have c2 := hb2.cell))
    | (go_at_call 45; go_must (refine (cos_c _ _).mono ?_; rintro e w2 ⟨rfl, hx⟩; replace hw := hw.trans (bareN hx rfl rfl rfl rfl); replace hb3 := hb3.ext (bareN hx rfl rfl rfl rfl); replace hb2 := hb2.ext (bareN hx rfl rfl rfl rfl); replace hb1 := hb1.ext (bareN hx rfl rfl rfl rfl); clear c1 c2 hx; have c1 := hb1.cell; have c2 := hb2.cell))
    | (go_at_call 44; go_must (refine (sin_c _ _).mono ?_; rintro e w2 ⟨rfl, hx⟩; replace hw := hw.trans (bareN hx rfl rfl rfl rfl); replace hb3 := hb3.ext (bareN hx rfl rfl rfl rfl); replace hb2 := hb2.ext (bareN hx rfl rfl rfl rfl); replace hb1 := hb1.ext (bareN hx rfl rfl rfl rfl); clear c1 c2 hx; have c1 := hb1.cell; have c2 := hb2.cell))
    | (go_at_call 46; go_must (refine (sqrt_c _ _).mono ?_; rintro e w2 ⟨q, rfl, hq, hx⟩; replace hw := hw.trans (bareN hx rfl rfl rfl rfl); replace hb3 := hb3.ext (bareN hx rfl rfl rfl rfl); replace hb2 := hb2.ext (bareN hx rfl rfl rfl rfl); replace hb1 := hb1.ext (bareN hx rfl rfl rfl rfl); clear c1 c2 hx; have c1 := hb1.cell; have c2 := hb2.cell))
    | (go_at_call 47; go_must (refine (angle_c _ _ _).mono ?_; rintro e w2 ⟨rfl, hx⟩; replace hw := hw.trans (bareN hx rfl rfl rfl rfl); replace hb3 := hb3.ext (bareN hx rfl rfl rfl rfl); replace hb2 := hb2.ext (bareN hx rfl rfl rfl rfl); replace hb1 := hb1.ext (bareN hx rfl rfl rfl rfl); clear c1 c2 hx; have c1 := hb1.cell; have c2 := hb2.cell))
    | (go_at_call 67; go_must (refine (unsinh_c _ _).mono ?_; rintro e w2 ⟨v, rfl, hv, hx⟩; replace hw := hw.trans (bareN hx rfl rfl rfl rfl); replace hb3 := hb3.ext (bareN hx rfl rfl rfl rfl); replace hb2 := hb2.ext (bareN hx rfl rfl rfl rfl); replace hb1 := hb1.ext (bareN hx rfl rfl rfl rfl); clear c1 c2 hx; have c1 := hb1.cell; have c2 := hb2.cell))
    | (refine wpList_own rfl 96 _ _ rfl _ _ rfl rfl _ _ hb3 (by kernel_rfl) rfl (by simp [Value.oneCell']) ?_; go_must (intro u bn en sn; replace hw := en w hw (by omega); have kc := bn.cell; clear sn en hb3))
    | (with_reducible refine upon_fl rfl ?_; intro r n hr))
  have ht' : can t = tS f lat := by rw [ht, hi1]; rfl
  refine bodyPost_ret (v := .tuple #[wideV t d (uS f lat d) v, .nilIface]) (by simp [results, Tryd.results58, go_sem, kc]; rfl) rfl ⟨t, v, rfl, ht', ?_, hw⟩
  rw [hv]
  simp only [*, fbin, vS, tS]
end Go.Proofs.YtddjppaccpioiaaDoor
