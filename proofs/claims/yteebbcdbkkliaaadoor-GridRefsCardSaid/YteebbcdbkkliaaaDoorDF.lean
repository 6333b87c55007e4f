/- Walks: the square in which a reference lies: package grid's Square. -/
import Derived.Test.YteebbcdbkkliaaaDoorDE
import Derived.IntWalk
namespace Go.Proofs.YteebbcdbkkliaaaDoor
open Go.RowKit Go.Fp Go.Rel Go.Lib
set_option maxRecDepth 20000

def lettersB : ByteArray := { data := #[65, 66, 67, 68, 69, 70, 71, 72, 74, 75, 76, 77, 78, 80, 81, 82, 83, 84, 85, 86] }
def lettersL : List UInt8 := [65, 66, 67, 68, 69, 70, 71, 72, 74, 75, 76, 77, 78, 80, 81, 82, 83, 84, 85, 86]
def letter (k : Nat) : UInt8 := lettersL.getD k 0
theorem letter_all : ∀ k : Fin 20, ((lettersB.extract k.1 20).extract 0 1).data.toList = [letter k.1] := by decide +kernel
theorem letter_cut (k : Nat) (h : k < 20) : (lettersB.extract k 20).extract 0 1 = ⟨#[letter k]⟩ := by
  apply ByteArray.ext
  apply Array.toList_inj.1
  exact letter_all ⟨k, h⟩
theorem letter_size (k : Nat) (h : k < 20) : (lettersB.extract k 20).size = 20 - k := by
  rw [ByteArray.size_extract]
  show min 20 20 - k = _
  omega
/-- the text of a square -/
def sqS (e n many : Nat) : List UInt8 := [letter (e / 100000)] ++ [letter (n / 100000 % 20)] ++ partD e many ++ partD n many
theorem partD_length (n many : Nat) : (partD n many).length = many := digs_length _ _
def SpP (e n : Nat) (P1 P2 : ByteArray) (args : Array Value) (v : Value) : Prop := (∃ p, args = #[.int .i64 e, p] ∧ v = .string P1) ∨ (∃ p, args = #[.int .i64 n, p] ∧ v = .string P2)
theorem spP_e {e n : Nat} {P1 P2 : ByteArray} (h : e = n → P1 = P2) (p v : Value) : SpP e n P1 P2 #[.int .i64 e, p] v ↔ v = .string P1 := by
  unfold SpP
  constructor
  · rintro (⟨q, h1, h2⟩ | ⟨q, h1, h2⟩)
    · exact h2
    · simp at h1; rw [h (by omega)]; exact h2
  · intro hv; exact .inl ⟨_, rfl, hv⟩
theorem spP_n {e n : Nat} {P1 P2 : ByteArray} (h : e = n → P1 = P2) (p v : Value) : SpP e n P1 P2 #[.int .i64 n, p] v ↔ v = .string P2 := by
  unfold SpP
  constructor
  · rintro (⟨q, h1, h2⟩ | ⟨q, h1, h2⟩)
    · simp at h1; rw [← h (by omega)]; exact h2
    · exact h2
  · intro hv; exact .inr ⟨_, rfl, hv⟩

set_option maxHeartbeats 8000000 in
theorem square_ok {A : Nat → Addr} (z : Int) (s : Bool) (e n many : Nat) (hz : 1 ≤ z) (hz' : z ≤ 60) (he : e ≤ 999999) (hn : n ≤ 9999999) (hm : many ≤ 5) (w : World) (hW : WorldG A w) :
    Calls Tryd.prog 24 #[refV z s e n, .int .i64 many] w (ExR (.tuple #[.string ⟨(sqS e n many).toArray⟩, .nilIface]) w) := by
  have HV := Lib.hid (fun w => refValid_ok z s e n ⟨hz, hz', by omega, by omega, by omega, by omega⟩ w)
  obtain ⟨ke, hke⟩ : ∃ k : Nat, k = e / 100000 := ⟨_, rfl⟩
  obtain ⟨qn, hqn⟩ : ∃ k : Nat, k = n / 100000 := ⟨_, rfl⟩
  obtain ⟨kn, hkn⟩ : ∃ k : Nat, k = qn % 20 := ⟨_, rfl⟩
  have E1 : (e : Int).tdiv 100000 = (ke : Int) := by rw [hke]; rfl
  have N1 : (n : Int).tdiv 100000 = (qn : Int) := by rw [hqn]; rfl
  have N2 : (qn : Int).tmod 20 = (kn : Int) := by rw [hkn]; rfl
  have ke20 : ke < 20 := by omega
  have kn20 : kn < 20 := by omega
  obtain ⟨T1, hT1⟩ : ∃ T, T = lettersB.extract ke 20 := ⟨_, rfl⟩
  obtain ⟨T2, hT2⟩ : ∃ T, T = lettersB.extract kn 20 := ⟨_, rfl⟩
  have hS1 : 1 ≤ T1.size := by rw [hT1, letter_size ke ke20]; omega
  have hS2 : 1 ≤ T2.size := by rw [hT2, letter_size kn kn20]; omega
  obtain ⟨A1, hA1⟩ : ∃ T : ByteArray, T = ⟨#[letter ke]⟩ := ⟨_, rfl⟩
  obtain ⟨A2, hA2⟩ : ∃ T : ByteArray, T = ⟨#[letter kn]⟩ := ⟨_, rfl⟩
  have WK : IntKind.i64.wrap (ke : Int) = ke := IntWalk.i64_in _ ⟨by omega, by omega⟩
  have WN : IntKind.i64.wrap (kn : Int) = kn := IntWalk.i64_in _ ⟨by omega, by omega⟩
  have WQ : IntKind.i64.wrap (qn : Int) = qn := IntWalk.i64_in _ ⟨by omega, by omega⟩
  have K1 : (ke : Int) ≤ 20 := by omega
  have K2 : (kn : Int) ≤ 20 := by omega
  have XT1 : ({ data := #[65, 66, 67, 68, 69, 70, 71, 72, 74, 75, 76, 77, 78, 80, 81, 82, 83, 84, 85, 86] } : ByteArray).extract ke 20 = T1 := hT1.symm
  have XT2 : ({ data := #[65, 66, 67, 68, 69, 70, 71, 72, 74, 75, 76, 77, 78, 80, 81, 82, 83, 84, 85, 86] } : ByteArray).extract kn 20 = T2 := hT2.symm
  have X1 : T1.extract 0 1 = A1 := by rw [hT1, hA1, letter_cut ke ke20]
  have X2 : T2.extract 0 1 = A2 := by rw [hT2, hA2, letter_cut kn kn20]
  have I1 : (1 : Int) ≤ (T1.size : Int) := by omega
  have I2 : (1 : Int) ≤ (T2.size : Int) := by omega
  obtain ⟨P1, hP1⟩ : ∃ T : ByteArray, T = ⟨(partD e many).toArray⟩ := ⟨_, rfl⟩
  obtain ⟨P2, hP2⟩ : ∃ T : ByteArray, T = ⟨(partD n many).toArray⟩ := ⟨_, rfl⟩
  have z1 : A1.size = 1 := by rw [hA1]; rfl
  have z2 : A2.size = 1 := by rw [hA2]; rfl
  have z3 : P1.size = many := by rw [hP1]; show (partD e many).toArray.size = _; rw [List.size_toArray, partD_length]
  have z4 : P2.size = many := by rw [hP2]; show (partD n many).toArray.size = _; rw [List.size_toArray, partD_length]
  have L1 : ¬ 9223372036854775807 < A1.size + A2.size := by omega
  have L2 : ¬ 9223372036854775807 < A1.size + A2.size + P1.size := by omega
  have L3 : ¬ 9223372036854775807 < A1.size + A2.size + P1.size + P2.size := by omega
  have hPP : Hid (e = n → P1 = P2) := Lib.hid (fun h => by rw [hP1, hP2, h])
  have HP1 : Hid (∀ b w, TabOk w → Blk w b 3 #[.int .i64 many] → Calls Tryd.prog 46 #[.int .i64 e, .pointer (some ⟨b, 0, none⟩)] w (ExR (.string P1) w)) := Lib.hid (fun b w ht hb => by rw [hP1]; exact part_c e many b hm w ht hb)
  have HP2 : Hid (∀ b w, TabOk w → Blk w b 3 #[.int .i64 many] → Calls Tryd.prog 46 #[.int .i64 n, .pointer (some ⟨b, 0, none⟩)] w (ExR (.string P2) w)) := Lib.hid (fun b w ht hb => by rw [hP2]; exact part_c n many b hm w ht hb)
  have HS : Hid (A1 ++ A2 ++ P1 ++ P2 = ⟨(sqS e n many).toArray⟩) := by
    show A1 ++ A2 ++ P1 ++ P2 = _
    rw [hA1, hA2, hP1, hP2, hkn, hqn, hke]
    apply ByteArray.ext
    simp [sqS]
  clear hke hqn hkn hT1 hT2 ke20 kn20 hA1 hA2 hP1 hP2 z1 z2 z3 z4
  go_enter Tryd.func24, Tryd.ntmps24
  go_wp2_with (first
    | (go_at_call 20; go_must (refine (HV.out _).mono ?_; rintro e w1 ⟨rfl, hx⟩; obtain ⟨hb1, hb2, hw⟩ := ext2 hx; clear hx; have c1 := hb1.cell; have c2 := hb2.cell)))
  clear c1 c2
  have ht := (hW.ext hw).tab
  have tk1 : Hid True := trivial
  refine wp_region_all (fun g args v => g = 46 ∧ SpP e n P1 P2 args v) (by kernel_rfl) (by kernel_rfl) ?_
  repeat (first
    | (refine wpR_op rfl (fun w9 hw9 K hK => ?_); have k1 := (hb1.ext (bareN hw9 rfl rfl rfl rfl)).cell; go_simp; refine hK _ ?_; clear hK K k1 hw9 w9)
    | (refine wpR_op rfl (fun w9 hw9 K hK => ?_); clear tk1; go_simp; refine rel_call (ExR.call (HP1.out _ _ (ht.ext (bareN hw9 rfl rfl rfl rfl)) (hb2.ext (bareN hw9 rfl rfl rfl rfl)))) (fun v => ?_) (fun v hv => ?_); (simp [spP_e hPP.out]); subst hv; refine hK _ ?_; clear hK K hw9 w9)
    | (refine wpR_op rfl (fun w9 hw9 K hK => ?_); go_simp; refine rel_call (ExR.call (HP2.out _ _ (ht.ext (bareN hw9 rfl rfl rfl rfl)) (hb2.ext (bareN hw9 rfl rfl rfl rfl)))) (fun v => ?_) (fun v hv => ?_); (simp [spP_n hPP.out]); subst hv; refine hK _ ?_; clear hK K hw9 w9))
  refine wpR_nil ?_
  intro w8 hx8 _
  go_wp2_with fail
  refine bodyPost_ret (v := .tuple #[.string (A1 ++ A2 ++ P1 ++ P2), .nilIface]) (by simp [results, Tryd.results24, go_sem]) rfl ⟨by rw [HS.out], hw.trans (bareN hx8 rfl rfl rfl rfl)⟩
end Go.Proofs.YteebbcdbkkliaaaDoor
