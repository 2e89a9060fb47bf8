/- The parts of the hash and what puts both together, for all numbers; the fixed answers of 'awake'. -/
import Derived.Test.YtaodaonbkfgoeaaMixB
namespace Go.Proofs.Ytaodaonbkfgoeaa.MixC
open Go.RowKit Go.Proofs.YtaodaonbkfgoeaaW.PrintWords Go.Proofs.Ytaodaonbkfgoeaa.MixA Go.Proofs.Ytaodaonbkfgoeaa.MixB Go.Proofs.Ytaodaonbkfgoeaa.PMixTells

theorem high7 (x : BitVec 64) : (x &&& ~~~127#64).toNat = x.toNat / 128 * 128 := by
  have e : x &&& ~~~127#64 = (x >>> 7) <<< 7 := by
    apply BitVec.eq_of_getLsbD_eq
    intro i hi
    have h127 : (127#64).getLsbD i = decide (i < 7) := by
      have hm : (127#64).getLsbD i = (2 ^ 7 - 1).testBit i := by
        rw [BitVec.getLsbD_ofNat]; simp [hi]
      rw [hm, Nat.testBit_two_pow_sub_one]
    simp only [BitVec.getLsbD_and, BitVec.getLsbD_not, BitVec.getLsbD_shiftLeft, BitVec.getLsbD_ushiftRight, h127, hi]
    by_cases h : i < 7
    · simp [h]
    · simp [h, Nat.add_sub_cancel' (by omega : 7 ≤ i)]
  rw [e, BitVec.toNat_shiftLeft, BitVec.toNat_ushiftRight, Nat.shiftRight_eq_div_pow, Nat.shiftLeft_eq, Nat.mod_eq_of_lt]
  have := x.isLt
  omega
theorem andNot127 (a : Int) (h : -9223372036854775808 ≤ a) (h' : a < 9223372036854775808) : (Go.bits .andNot .i64 a 127 = 128) ↔ (128 ≤ a ∧ a ≤ 255) := by
  show IntKind.i64.wrap (((BitVec.ofInt 64 a) &&& ~~~(BitVec.ofInt 64 127)).toNat : Int) = 128 ↔ _
  have e : BitVec.ofInt 64 127 = 127#64 := by decide +kernel
  rw [e, high7, IntKind.wrap_i64]
  have hx : ((BitVec.ofInt 64 a).toNat : Int) = a % 18446744073709551616 := by
    rw [BitVec.toNat_ofInt]
    omega
  generalize (BitVec.ofInt 64 a).toNat = n at hx
  omega
theorem and127i (a : Int) (h : 128 ≤ a) (h' : a ≤ 255) : Go.bits .and .i64 a 127 = a - 128 := by
  have := bits_mask .i64 63 (by decide) (fun n a b => by rw [IntKind.wrap_i64]; simp at b; omega) 7 (by decide) a (by omega) (by simp; omega)
  have e : Go.bits .and .i64 a 127 = a % 128 := this
  rw [e]; omega
theorem or_join (x y : Int) (hx : 0 ≤ x) (hx' : x < 18446744073709551616) (h128 : x % 128 = 0) (hy : 0 ≤ y) (hy' : y < 128) : Go.bits .or .u64 x y = x + y :=
  bits_join .u64 64 (by decide) (fun n a b => wrap_in a (by simpa using b)) 7 x y hx (by simpa using h128) (by simpa using hx') hy (by simpa using hy') (by simp; omega)
theorem Whole_is (a c : Int) (h : 0 ≤ a) (h' : a < 18446744073709551616) (hc : -9223372036854775808 ≤ c) (hc' : c < 9223372036854775808) :
    mix_Whole.f a c = some (if a < 144115188075855872 ∧ 128 ≤ c ∧ c ≤ 255 then a * 128 + (c - 128) else 0) := by
  unfold mix_Whole.f
  by_cases h1 : a < 144115188075855872
  · rw [if_pos (by omega)]
    by_cases h2 : 128 ≤ c ∧ c ≤ 255
    · rw [if_pos ((andNot127 c hc hc').mpr h2), if_pos ⟨h1, h2⟩, and127i c h2.1 h2.2, wrap_in (by omega) (by omega), wrap_in (by omega) (by omega),
        or_join _ _ (by omega) (by omega) (by omega) (by omega) (by omega)]
    · rw [if_neg (fun k => h2 ((andNot127 c hc hc').mp k)), if_neg (fun k => h2 k.2)]
  · rw [if_neg (by omega), if_neg (fun k => h1 k.1)]
theorem WholeR_is (a c : Int) (h : 0 ≤ a) (h' : a < 18446744073709551616) :
    sprocketref03_Whole.f a c = some (if a < 144115188075855872 ∧ 128 ≤ c ∧ c ≤ 255 then a * 128 + (c - 128) else 0) := by
  unfold sprocketref03_Whole.f
  by_cases h1 : a < 144115188075855872
  · rw [if_neg (by omega)]
    by_cases h2 : 128 ≤ c
    · rw [if_neg (by omega)]
      by_cases h3 : c ≤ 255
      · rw [if_neg (by omega), if_pos ⟨h1, h2, h3⟩]
        have e : wrap64 (c - 128) = c - 128 := by unfold wrap64; omega
        rw [e, wrap_in (n := c - 128) (by omega) (by omega), wrap_in (n := a * 128) (by omega) (by omega), wrap_in (by omega) (by omega)]
      · rw [if_pos (by omega), if_neg (by omega)]
    · rw [if_pos (by omega), if_neg (by omega)]
  · rw [if_pos (by omega), if_neg (by omega)]

theorem fin0 : fin 0#64 = 0#64 := by decide +kernel
theorem fin1 : fin 1#64 ≠ 0#64 := by decide +kernel
theorem awake (k : Nat) (hk : 0 < k) : sprocketlaw03_awake.f k = some true := by
  have e0 : mix_Hash.f k 0 (⟨#[]⟩ : ByteArray) = some 0 := by
    have := Hash k ⟨#[]⟩ (by decide) hk 0#64
    have f : hashB 0#64 (⟨#[]⟩ : ByteArray).data.toList = 0#64 := fin0
    rw [f] at this
    exact this
  have e1 : ∃ y : Int, y ≠ 0 ∧ mix_Hash.f k 1 (⟨#[]⟩ : ByteArray) = some y := by
    refine ⟨I (fin 1#64), ?_, Hash k ⟨#[]⟩ (by decide) hk 1#64⟩
    intro h
    exact fin1 (I_inj.mp h)
  obtain ⟨y, hy, e1⟩ := e1
  have e2 : mix_Claim.f 5 = some 133 := MixB.Claim 5#64
  have e3 : mix_Start.f 256 = some 2 := by decide
  have e4 : mix_Whole.f 2 128 = some 256 := by rw [Whole_is _ _ (by decide) (by decide) (by decide) (by decide)]; rfl
  have e5 : mix_Whole.f 2 127 = some 0 := by rw [Whole_is _ _ (by decide) (by decide) (by decide) (by decide)]; rfl
  unfold sprocketlaw03_awake.f
  simp only [e0, e1, e2, e3, e4, e5, Option.bind_some, if_true, hy, if_false]
  rfl
end Go.Proofs.Ytaodaonbkfgoeaa.MixC
