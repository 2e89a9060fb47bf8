/- The plain laws behind the hash: words of 64 bits as bit vectors, the hash as a fold over the bytes, each step of it undone. No program in sight. -/
import Derived.Laws.BitsLemmas
import Derived.RowKit
import Derived.Test.YtaodaonbkfgoeaaWWords
namespace Go.Proofs.Ytaodaonbkfgoeaa.MixA
open Go.RowKit Go.Proofs.YtaodaonbkfgoeaaW.PrintWords

def I (a : BitVec 64) : Int := (a.toNat : Int)

theorem I_lt (a : BitVec 64) : I a < 18446744073709551616 := by unfold I; have := a.isLt; omega
theorem I_nonneg (a : BitVec 64) : 0 ≤ I a := by unfold I; omega
theorem I_inj {a b : BitVec 64} : I a = I b ↔ a = b := by
  unfold I; constructor
  · intro h; apply BitVec.eq_of_toNat_eq; omega
  · rintro rfl; rfl
theorem wrap_u64 (n : Int) : IntKind.u64.wrap n = n % 18446744073709551616 := by simp [IntKind.wrap, IntKind.bits, IntKind.signed]
theorem wrap_in {n : Int} (h : 0 ≤ n) (h' : n < 18446744073709551616) : IntKind.u64.wrap n = n := by rw [wrap_u64]; omega
theorem of_I (a : BitVec 64) : BitVec.ofInt 64 (I a) = a := by unfold I; simp
theorem I_of {n : Int} (h : 0 ≤ n) (h' : n < 18446744073709551616) : ∃ a : BitVec 64, n = I a := by
  refine ⟨BitVec.ofNat 64 n.toNat, ?_⟩
  unfold I
  rw [BitVec.toNat_ofNat, Nat.mod_eq_of_lt (by omega)]
  omega

theorem back_u64 (r : BitVec 64) : IntKind.u64.wrap (r.toNat : Int) = I r := by
  rw [wrap_in (by omega) (by have := r.isLt; omega)]; rfl
theorem bits_xor (a b : BitVec 64) : bits .xor .u64 (I a) (I b) = I (a ^^^ b) := by
  show IntKind.u64.wrap (((BitVec.ofInt 64 (I a)) ^^^ (BitVec.ofInt 64 (I b))).toNat : Int) = _
  rw [of_I, of_I, back_u64]
theorem bits_or (a b : BitVec 64) : bits .or .u64 (I a) (I b) = I (a ||| b) := by
  show IntKind.u64.wrap (((BitVec.ofInt 64 (I a)) ||| (BitVec.ofInt 64 (I b))).toNat : Int) = _
  rw [of_I, of_I, back_u64]
theorem bits_and (a b : BitVec 64) : bits .and .u64 (I a) (I b) = I (a &&& b) := by
  show IntKind.u64.wrap (((BitVec.ofInt 64 (I a)) &&& (BitVec.ofInt 64 (I b))).toNat : Int) = _
  rw [of_I, of_I, back_u64]
theorem I_mul (a b : BitVec 64) : IntKind.u64.wrap (I a * I b) = I (a * b) := by
  rw [wrap_u64]; unfold I; rw [BitVec.toNat_mul, Int.natCast_emod, Int.natCast_mul]; rfl
theorem I_add (a b : BitVec 64) : IntKind.u64.wrap (I a + I b) = I (a + b) := by
  rw [wrap_u64]; unfold I; rw [BitVec.toNat_add, Int.natCast_emod, Int.natCast_add]; rfl
theorem I_sub (a b : BitVec 64) : IntKind.u64.wrap (I a - I b) = I (a - b) := by
  rw [wrap_u64]; unfold I; rw [BitVec.toNat_sub]; have := b.isLt; have := a.isLt
  omega
theorem I_shr (a : BitVec 64) (n : Nat) : I (a >>> n) = I a / ((2 ^ n : Nat) : Int) := by
  unfold I; rw [BitVec.toNat_ushiftRight, Nat.shiftRight_eq_div_pow]; push_cast; rfl

/-! the hash -/
def P : BitVec 64 := 1099511628211#64
def G : BitVec 64 := 11400714819323198485#64
theorem I_P : I P = 1099511628211 := by decide +kernel
theorem I_G : I G = 11400714819323198485 := by decide +kernel
def wide (c : UInt8) : BitVec 64 := c.toBitVec.setWidth 64
theorem I_wide (c : UInt8) : I (wide c) = (c.toNat : Int) := by
  unfold I wide; rw [BitVec.toNat_setWidth]; simp
theorem wide_inj {a b : UInt8} : wide a = wide b ↔ a = b := by
  rw [← I_inj, I_wide, I_wide]
  constructor
  · intro h; apply UInt8.toNat_inj.mp; omega
  · rintro rfl; rfl
def step (h : BitVec 64) (c : UInt8) : BitVec 64 := (h ^^^ wide c) * P
def fin (h : BitVec 64) : BitVec 64 := ((h ^^^ (h >>> 32)) * G) ^^^ (((h ^^^ (h >>> 32)) * G) >>> 29)
def hashB (h : BitVec 64) (l : List UInt8) : BitVec 64 := fin (l.foldl step h)

theorem xor_inj {a b c : BitVec 64} (h : a ^^^ c = b ^^^ c) : a = b := by
  have := congrArg (· ^^^ c) h
  simpa [BitVec.xor_assoc] using this
theorem xor_inj' {a b c : BitVec 64} (h : c ^^^ a = c ^^^ b) : a = b := by
  rw [BitVec.xor_comm c a, BitVec.xor_comm c b] at h; exact xor_inj h
theorem mul_P {a b : BitVec 64} (h : a * P = b * P) : a = b := by
  have k := congrArg (· * (14886173955864302971#64)) h
  have e : P * 14886173955864302971#64 = 1#64 := by decide +kernel
  simp only [BitVec.mul_assoc, e, BitVec.mul_one] at k
  exact k
theorem mul_G {a b : BitVec 64} (h : a * G = b * G) : a = b := by
  have k := congrArg (· * (17428512612931826493#64)) h
  have e : G * 17428512612931826493#64 = 1#64 := by decide +kernel
  simp only [BitVec.mul_assoc, e, BitVec.mul_one] at k
  exact k
theorem sh32 {a b : BitVec 64} (h : a ^^^ (a >>> 32) = b ^^^ (b >>> 32)) : a = b := by
  have back : ∀ x : BitVec 64, (x ^^^ (x >>> 32)) ^^^ ((x ^^^ (x >>> 32)) >>> 32) = x := by
    intro x
    apply BitVec.eq_of_getLsbD_eq
    intro i hi
    simp only [BitVec.getLsbD_xor, BitVec.getLsbD_ushiftRight]
    have : x.getLsbD (32 + (32 + i)) = false := BitVec.getLsbD_of_ge _ _ (by omega)
    rw [this]
    cases x.getLsbD i <;> cases x.getLsbD (32 + i) <;> rfl
  rw [← back a, ← back b, h]
theorem sh29 {a b : BitVec 64} (h : a ^^^ (a >>> 29) = b ^^^ (b >>> 29)) : a = b := by
  have back : ∀ x : BitVec 64, (x ^^^ (x >>> 29)) ^^^ ((x ^^^ (x >>> 29)) >>> 29) ^^^ ((x ^^^ (x >>> 29)) >>> 58) = x := by
    intro x
    apply BitVec.eq_of_getLsbD_eq
    intro i hi
    simp only [BitVec.getLsbD_xor, BitVec.getLsbD_ushiftRight]
    have h1 : x.getLsbD (29 + (58 + i)) = false := BitVec.getLsbD_of_ge _ _ (by omega)
    have h2 : 29 + (29 + i) = 58 + i := by omega
    rw [h1, h2]
    cases x.getLsbD i <;> cases x.getLsbD (29 + i) <;> cases x.getLsbD (58 + i) <;> rfl
  rw [← back a, ← back b, h]
theorem fin_inj {a b : BitVec 64} (h : fin a = fin b) : a = b := sh32 (mul_G (sh29 h))
theorem step_inj {a b : BitVec 64} {c : UInt8} (h : step a c = step b c) : a = b := xor_inj (mul_P h)
theorem step_inj' {a : BitVec 64} {c d : UInt8} (h : step a c = step a d) : c = d := wide_inj.mp (xor_inj' (mul_P h))
theorem fold_inj : ∀ (l : List UInt8) {a b : BitVec 64}, l.foldl step a = l.foldl step b → a = b
  | [], _, _, h => h
  | _ :: l, _, _, h => step_inj (fold_inj l h)
/-- by unlike seeds a text has unlike hashes -/
theorem hash_seeds (a b : BitVec 64) (l : List UInt8) : hashB a l = hashB b l ↔ a = b :=
  ⟨fun h => fold_inj l (fin_inj h), fun h => by rw [h]⟩
/-- two texts that are alike but for one byte have unlike hashes -/
theorem hash_bytes (a : BitVec 64) (p q : List UInt8) (c d : UInt8) : hashB a (p ++ [c] ++ q) = hashB a (p ++ [d] ++ q) ↔ c = d := by
  constructor
  · intro h
    have h := fin_inj h
    simp only [List.foldl_append, List.foldl_cons, List.foldl_nil] at h
    exact step_inj' (fold_inj q h)
  · rintro rfl; rfl
theorem xor_sub (a b : BitVec 64) : (a ||| b) - (a &&& b) = a ^^^ b := by
  have h : (a ^^^ b) + (a &&& b) = a ||| b := by
    rw [BitVec.add_eq_or_of_and_eq_zero]
    · apply BitVec.eq_of_getLsbD_eq
      intro i hi
      simp only [BitVec.getLsbD_or, BitVec.getLsbD_xor, BitVec.getLsbD_and]
      cases a.getLsbD i <;> cases b.getLsbD i <;> rfl
    · apply BitVec.eq_of_getLsbD_eq
      intro i hi
      simp only [BitVec.getLsbD_xor, BitVec.getLsbD_and, BitVec.getLsbD_zero]
      cases a.getLsbD i <;> cases b.getLsbD i <;> rfl
  rw [← h, BitVec.add_sub_cancel]
end Go.Proofs.Ytaodaonbkfgoeaa.MixA
