/- Walks: the square in which a reference lies: the reference's. -/
import Derived.Test.YteebbcdbkkliaaaDoorDG
namespace Go.Proofs.YteebbcdbkkliaaaDoor
open Go.RowKit Go.Fp Go.Rel Go.Lib
set_option maxRecDepth 20000

theorem letters_at (k : Nat) (h : k < 20) : (#[.int .u8 65, .int .u8 66, .int .u8 67, .int .u8 68, .int .u8 69, .int .u8 70, .int .u8 71, .int .u8 72, .int .u8 74, .int .u8 75, .int .u8 76, .int .u8 77, .int .u8 78, .int .u8 80, .int .u8 81, .int .u8 82, .int .u8 83, .int .u8 84, .int .u8 85, .int .u8 86] : Array Value)[k]? = some (.int .u8 ((letter k).toNat : Int)) := by
  rcases k with _ | _ | _ | _ | _ | _ | _ | _ | _ | _ | _ | _ | _ | _ | _ | _ | _ | _ | _ | _ | k
  all_goals first | rfl | omega
theorem conv_at (l : List UInt8) (w : World) (b : Nat) (hc : ∀ j (hj : j < l.length), w.cell? ⟨b, j, none⟩ = some (.int .u8 (l[j].toNat : Int))) (n : Nat) (hn : l.length = n) (c : Nat) :
    (convert 86 9 (.slice (some ⟨b, 0, none⟩) n c)).run Tryd.prog w = .ok (.string ⟨l.toArray⟩) w := by
  subst hn
  refine run_convert_bytes_back w 86 9 5 ⟨b, 0, none⟩ c l Tryd.underlying86 Tryd.underlying5 Tryd.underlying9 (fun j hj => ?_)
  rw [show (⟨b, 0, none⟩ : Addr).add j = ⟨b, j, none⟩ by simp [Addr.add]; omega]
  exact hc j hj
set_option maxHeartbeats 8000000 in
theorem squareText_ok (z : Int) (s : Bool) (e n many : Nat) (hz : 1 ≤ z) (hz' : z ≤ 60) (he : e ≤ 999999) (hn : n ≤ 9999999) (hm : many ≤ 5) (w : World) :
    Calls Tryd.prog 25 #[refV z s e n, .int .i64 many] w (ExR (.tuple #[.string ⟨(sqS e n many).toArray⟩, .int .i64 0]) w) := by
  have HV := Lib.hid (fun w => refError_ok z s e n ⟨hz, hz', by omega, by omega, by omega, by omega⟩ w)
  obtain ⟨S, hS⟩ : ∃ S : ByteArray, S = ⟨(sqS e n many).toArray⟩ := ⟨_, rfl⟩
  rw [← hS]
  have HS := Lib.hid hS
  clear hS
  go_enter Tryd.func25, Tryd.ntmps25
  go_wp2_with (first
    | (go_at_call 42; go_must (refine (HV.out _).mono ?_; rintro e w1 ⟨rfl, hx⟩; obtain ⟨hb1, hw⟩ := ext1 hx; clear hx; have c1 := hb1.cell)))
  have hbL := Blk.new w1 #[.int .u8 65, .int .u8 66, .int .u8 67, .int .u8 68, .int .u8 69, .int .u8 70, .int .u8 71, .int .u8 72, .int .u8 74, .int .u8 75, .int .u8 76, .int .u8 77, .int .u8 78, .int .u8 80, .int .u8 81, .int .u8 82, .int .u8 83, .int .u8 84, .int .u8 85, .int .u8 86] 5
  have hb0 := hb1.ext ((Ext.refl w1).alloc (.cells #[.int .u8 65, .int .u8 66, .int .u8 67, .int .u8 68, .int .u8 69, .int .u8 70, .int .u8 71, .int .u8 72, .int .u8 74, .int .u8 75, .int .u8 76, .int .u8 77, .int .u8 78, .int .u8 80, .int .u8 81, .int .u8 82, .int .u8 83, .int .u8 84, .int .u8 85, .int .u8 86] 5))
  have hw0 := hw.alloc (.cells #[.int .u8 65, .int .u8 66, .int .u8 67, .int .u8 68, .int .u8 69, .int .u8 70, .int .u8 71, .int .u8 72, .int .u8 74, .int .u8 75, .int .u8 76, .int .u8 77, .int .u8 78, .int .u8 80, .int .u8 81, .int .u8 82, .int .u8 83, .int .u8 84, .int .u8 85, .int .u8 86] 5)
  go_loopw [8, 9] (fun tv iv wr => ∃ (t i : Nat), tv = .int .i64 t ∧ iv = .int .i64 i ∧ i ≤ 5 ∧ many ≤ i ∧ t = 10 ^ (i - many) ∧ Ext w wr ∧ Blk wr w.heap.size 43 #[.int .i64 z, .bool s, .int .i64 e, .int .i64 n] ∧ Blk wr w1.heap.size 5 #[.int .u8 65, .int .u8 66, .int .u8 67, .int .u8 68, .int .u8 69, .int .u8 70, .int .u8 71, .int .u8 72, .int .u8 74, .int .u8 75, .int .u8 76, .int .u8 77, .int .u8 78, .int .u8 80, .int .u8 81, .int .u8 82, .int .u8 83, .int .u8 84, .int .u8 85, .int .u8 86]) (fun tv iv _ => 5 - (RowKit.intOf iv).toNat)
  case atStart => exact ⟨1, many, rfl, rfl, hm, Nat.le_refl _, by simp, hw0, hb0, hbL⟩
  case round =>
    obtain ⟨t, i, rfl, rfl, hi, hmi, ht, hwr, hb, hbl⟩ := hrel
    clear hw hb1 hw0 hb0 hbL c1
    generalize w1.heap.size = nL at *
    have htb : t ≤ 100000 := by
      rw [ht]
      exact Nat.le_trans (Nat.pow_le_pow_right (by decide) (show i - many ≤ 5 by omega)) (by decide)
    have HT := Lib.hid ht
    clear ht
    rcases Nat.lt_or_ge i 5 with hlt | hge
    · go_wp2_with fail
      go_roundw
      case rel => exact ⟨t * 10, i + 1, by simp, rfl, by omega, by omega, by rw [HT.out, show i + 1 - many = (i - many) + 1 by omega, Nat.pow_succ], hwr, hb, hbl⟩
      case measure => simp [RowKit.intOf]; omega
    · have h5 : i = 5 := by omega
      subst h5
      obtain ⟨me, hme⟩ : ∃ k : Nat, k = e % 100000 := ⟨_, rfl⟩
      obtain ⟨mn, hmn⟩ : ∃ k : Nat, k = n % 100000 := ⟨_, rfl⟩
      obtain ⟨de, hde⟩ : ∃ k : Nat, k = me / t := ⟨_, rfl⟩
      obtain ⟨dn, hdn⟩ : ∃ k : Nat, k = mn / t := ⟨_, rfl⟩
      have E1 : (e : Int).tmod 100000 = (me : Int) := by rw [hme]; rfl
      have E2 : (e : Int) % 100000 = (me : Int) := by omega
      have N1 : (n : Int).tmod 100000 = (mn : Int) := by rw [hmn]; rfl
      have N2 : (n : Int) % 100000 = (mn : Int) := by omega
      have E3 : (me : Int).tdiv t = (de : Int) := by rw [hde]; rfl
      have E4 : (me : Int) / t = (de : Int) := by rw [hde]; rfl
      have N3 : (mn : Int).tdiv t = (dn : Int) := by rw [hdn]; rfl
      have N4 : (mn : Int) / t = (dn : Int) := by rw [hdn]; rfl
      have ht1 : 0 < t := by rw [HT.out]; exact Nat.pow_pos (by decide)
      have hde' : de < 10000000000 := by rw [hde]; exact Nat.lt_of_le_of_lt (Nat.div_le_self _ _) (by omega)
      have hdn' : dn < 10000000000 := by rw [hdn]; exact Nat.lt_of_le_of_lt (Nat.div_le_self _ _) (by omega)
      have WD : IntKind.i64.wrap (de : Int) = de := IntWalk.i64_in _ ⟨by omega, by omega⟩
      have WN : IntKind.i64.wrap (dn : Int) = dn := IntWalk.i64_in _ ⟨by omega, by omega⟩
      obtain ⟨P1, hP1⟩ : ∃ T : ByteArray, T = ⟨(digs many de).toArray⟩ := ⟨_, rfl⟩
      obtain ⟨P2, hP2⟩ : ∃ T : ByteArray, T = ⟨(digs many dn).toArray⟩ := ⟨_, rfl⟩
      have HP1 : Hid (∀ w, Calls Tryd.prog 43 #[.int .i64 de, .int .i64 many] w (ExR (.string P1) w)) := Lib.hid (fun w => by rw [hP1]; exact refDigits_c de many (by omega) hde' w)
      have HP2 : Hid (∀ w, Calls Tryd.prog 43 #[.int .i64 dn, .int .i64 many] w (ExR (.string P2) w)) := Lib.hid (fun w => by rw [hP2]; exact refDigits_c dn many (by omega) hdn' w)
      have z3 : P1.size = many := by rw [hP1]; show (digs many de).toArray.size = _; rw [List.size_toArray, digs_length]
      have z4 : P2.size = many := by rw [hP2]; show (digs many dn).toArray.size = _; rw [List.size_toArray, digs_length]
      have HQ : Hid (S = ⟨#[letter (e / 100000), letter (n / 100000 % 20)]⟩ ++ P1 ++ P2) := by
        show S = _
        rw [HS.out, hP1, hP2, hde, hdn, hme, hmn, HT.out]
        apply ByteArray.ext
        simp [sqS, partD]
      clear hme hmn hde hdn hP1 hP2 HT hde' hdn' HS
      have tk1 : Hid True := trivial
      have c1 := hb.cell
      go_wp2_with (first
        | (go_at_call 43; clear tk1; go_must (refine (HP1.out _).mono ?_; rintro e w2 ⟨rfl, hx⟩; replace hwr := hwr.trans hx; replace hb := hb.ext hx; replace hbl := hbl.ext hx; clear c1 hx; have c1 := hb.cell))
        | (go_at_call 43; go_must (refine (HP2.out _).mono ?_; rintro e w2 ⟨rfl, hx⟩; replace hwr := hwr.trans hx; replace hb := hb.ext hx; replace hbl := hbl.ext hx; clear c1 hx; have c1 := hb.cell)))
      obtain ⟨ke, hke⟩ : ∃ k : Nat, k = e / 100000 := ⟨_, rfl⟩
      obtain ⟨qn, hqn⟩ : ∃ k : Nat, k = n / 100000 := ⟨_, rfl⟩
      obtain ⟨kn, hkn⟩ : ∃ k : Nat, k = qn % 20 := ⟨_, rfl⟩
      have F1 : (e : Int).tdiv 100000 = (ke : Int) := by rw [hke]; rfl
      have F2 : (n : Int).tdiv 100000 = (qn : Int) := by rw [hqn]; rfl
      have F3 : (qn : Int).tmod 20 = (kn : Int) := by rw [hkn]; rfl
      have F4 : (e : Int) / 100000 = (ke : Int) := by omega
      have F5 : (n : Int) / 100000 = (qn : Int) := by omega
      have F6 : (qn : Int) % 20 = (kn : Int) := by omega
      have ke20 : ke < 20 := by omega
      have kn20 : kn < 20 := by omega
      have WK : IntKind.i64.wrap (ke : Int) = ke := IntWalk.i64_in _ ⟨by omega, by omega⟩
      have WM : IntKind.i64.wrap (kn : Int) = kn := IntWalk.i64_in _ ⟨by omega, by omega⟩
      have WQ : IntKind.i64.wrap (qn : Int) = qn := IntWalk.i64_in _ ⟨by omega, by omega⟩
      have I1 : (ke : Int) < 20 := by omega
      have I2 : (kn : Int) < 20 := by omega
      obtain ⟨le, hle⟩ : ∃ k : Int, k = ((letter ke).toNat : Int) := ⟨_, rfl⟩
      obtain ⟨ln, hln⟩ : ∃ k : Int, k = ((letter kn).toNat : Int) := ⟨_, rfl⟩
      have cLe : w2.cell? ⟨nL, ke, none⟩ = some (.int .u8 le) := by rw [hbl.cell ke, letters_at ke ke20, hle]
      have cLn : w2.cell? ⟨nL, kn, none⟩ = some (.int .u8 ln) := by rw [hbl.cell kn, letters_at kn kn20, hln]
      obtain ⟨B0, hB0⟩ : ∃ T : ByteArray, T = ⟨#[letter ke, letter kn]⟩ := ⟨_, rfl⟩
      have CV : ∀ W' : World, (convert 86 9 (.slice (some ⟨W'.heap.size, 0, none⟩) 2 2)).run Tryd.prog (W'.alloc (.cells #[.int .u8 le, .int .u8 ln] 5)) = .ok (.string B0) (W'.alloc (.cells #[.int .u8 le, .int .u8 ln] 5)) := fun W' => by
        rw [hB0]
        refine conv_back [letter ke, letter kn] _ (fun j hj => ?_) 2 rfl 2 W'
        rcases j with _ | _ | j
        · simp [hle]
        · simp [hln]
        · simp at hj; omega
      have CV2 : ∀ W' : World, (convert 86 9 (.slice (some ⟨W'.heap.size, 0, none⟩) 2 2)).run Tryd.prog (W'.alloc (.cells #[.int .u8 le, .int .u8 ln] 5)).drew = .ok (.string B0) (W'.alloc (.cells #[.int .u8 le, .int .u8 ln] 5)).drew := fun W' => by
        rw [hB0]
        refine conv_at [letter ke, letter kn] (W'.alloc (.cells #[.int .u8 le, .int .u8 ln] 5)).drew _ (fun j hj => ?_) 2 rfl 2
        show (W'.alloc (.cells #[.int .u8 le, .int .u8 ln] 5)).cell? ⟨W'.heap.size, j, none⟩ = _
        rw [World.cell?_alloc_mark]
        rcases j with _ | _ | j
        · simp [hle]
        · simp [hln]
        · simp at hj; omega
      have z0 : B0.size = 2 := by rw [hB0]; rfl
      have L1 : ¬ 9223372036854775807 < B0.size + P1.size := by omega
      have L2 : ¬ 9223372036854775807 < B0.size + P1.size + P2.size := by omega
      have HS2 : Hid (S = B0 ++ P1 ++ P2) := by
        show S = _
        rw [HQ.out, hB0, hkn, hqn, hke]
      clear hke hqn hkn hle hln hB0 z0 z3 z4 HQ hbl hb ke20 kn20 E1 E2 N1 N2 E3 E4 N3 N4 WD WN HP1 HP2 HV
      go_region
      go_wp2_with fail
      refine bodyPost_ret (v := .tuple #[.string (B0 ++ P1 ++ P2), .int .i64 0]) (by simp [results, Tryd.results25, go_sem]) rfl ⟨by rw [HS2.out], (hwr.alloc _).drew⟩
end Go.Proofs.YteebbcdbkkliaaaDoor
