/- The printed functions of the hash and of its reference come to the fold of MixA: for every seed and text. -/
import Derived.Test.YtaodaonbkfgoeaaMixA
import Derived.Test.YtaodaonbkfgoeaaPMixTellsx1
import Derived.Test.YtaodaonbkfgoeaaPMixTellsx2
namespace Go.Proofs.Ytaodaonbkfgoeaa.MixB
open Go.RowKit Go.Proofs.YtaodaonbkfgoeaaW.PrintWords Go.Proofs.Ytaodaonbkfgoeaa.MixA Go.Proofs.Ytaodaonbkfgoeaa.PMixTells

theorem bt_drop (s : ByteArray) (i : Nat) (h : i < s.size) : s.data.toList.drop i = s[i] :: s.data.toList.drop (i + 1) := by
  rw [List.drop_eq_getElem_cons (by simpa using h)]; rfl
theorem bt_at (s : ByteArray) (i : Nat) (h : i < s.size) : bt s (i : Int) = (s[i].toNat : Int) := by
  unfold bt; simp [h]
theorem byteAt (s : ByteArray) (i : Nat) (h : i < s.size) : mix_byteAt.f s (i : Int) = some (s[i].toNat : Int) := by
  unfold mix_byteAt.f
  rw [if_pos (by omega), if_pos (by omega), bt_at s i h]
  have := s[i].toNat_lt
  unfold wrap32
  exact congrArg some (by omega)

theorem Hash_end (h : BitVec 64) : Go.bits .xor .u64 (IntKind.u64.wrap ((Go.bits .xor .u64 (I h) (I h / 4294967296)) * 11400714819323198485)) ((IntKind.u64.wrap ((Go.bits .xor .u64 (I h) (I h / 4294967296)) * 11400714819323198485)) / 536870912) = I (fin h) := by
  unfold fin
  have e1 : I h / (4294967296 : Int) = I (h >>> 32) := (I_shr h 32).symm
  rw [e1, bits_xor, ← I_G, I_mul]
  generalize h ^^^ (h >>> 32) = y
  have e2 : I (y * G) / (536870912 : Int) = I ((y * G) >>> 29) := (I_shr (y * G) 29).symm
  rw [e2, bits_xor]

theorem Hash_l0 (s : ByteArray) (hs : s.size ≤ 140737488351232) (d : Nat) : ∀ (k i : Nat) (h : BitVec 64), i + d = s.size → d < k →
    mix_Hash.l0 k s (I h) (s.size : Int) (i : Int) = some (I (hashB h (s.data.toList.drop i))) := by
  induction d with
  | zero =>
    intro k i h hd hk
    obtain ⟨k, rfl⟩ : ∃ m, k = m + 1 := ⟨k - 1, by omega⟩
    simp only [mix_Hash.l0]
    rw [if_neg (by omega), List.drop_of_length_le (by simp; omega), Hash_end]; rfl
  | succ d ih =>
    intro k i h hd hk
    obtain ⟨k, rfl⟩ : ∃ m, k = m + 1 := ⟨k - 1, by omega⟩
    have hlt : i < s.size := by omega
    simp only [mix_Hash.l0]
    rw [if_pos (by omega), byteAt s i hlt, bt_drop s i hlt]
    simp only [Option.bind_some]
    have e1 : IntKind.u64.wrap (s[i].toNat : Int) = I (wide s[i]) := by
      have := s[i].toNat_lt
      rw [I_wide, wrap_in (by omega) (by omega)]
    have e2 : wrap64 ((i : Int) + 1) = ((i + 1 : Nat) : Int) := by unfold wrap64; omega
    rw [e1, bits_xor, ← I_P, I_mul, e2, ih k (i + 1) _ (by omega) (by omega)]
    rfl
theorem Hash (k : Nat) (s : ByteArray) (hs : s.size ≤ 140737488351232) (hk : s.size < k) (h : BitVec 64) : mix_Hash.f k (I h) s = some (I (hashB h s.data.toList)) := by
  have := Hash_l0 s hs s.size k 0 h (by omega) hk
  rw [List.drop_zero] at this
  exact this

/-! the reference -/
theorem xorR (a b : BitVec 64) : sprocketref03_xor.f (I a) (I b) = some (I (a ^^^ b)) := by
  unfold sprocketref03_xor.f
  rw [bits_or, bits_and, I_sub, xor_sub]
theorem timesR (a b : BitVec 64) : sprocketref03_times.f (I a) (I b) = some (I (a * b)) := by
  unfold sprocketref03_times.f
  rw [I_mul]
theorem tdiv_shr (h : BitVec 64) (n : Nat) : IntKind.u64.wrap (Int.tdiv (I h) (2 ^ n : Nat)) = I (h >>> n) := by
  rw [Int.tdiv_eq_ediv_of_nonneg (I_nonneg h), ← I_shr, wrap_in (I_nonneg _) (I_lt _)]
theorem HashR_l0 (s : ByteArray) (hs : s.size ≤ 140737488351232) (d : Nat) : ∀ (k i : Nat) (h : BitVec 64), i + d = s.size → d < k →
    sprocketref03_Hash.l0 k s (I h) (i : Int) = some (I (hashB h (s.data.toList.drop i))) := by
  induction d with
  | zero =>
    intro k i h hd hk
    obtain ⟨k, rfl⟩ : ∃ m, k = m + 1 := ⟨k - 1, by omega⟩
    simp only [sprocketref03_Hash.l0]
    rw [if_neg (by omega), List.drop_of_length_le (by simp; omega)]
    have e1 : IntKind.u64.wrap (Int.tdiv (I h) 4294967296) = I (h >>> 32) := tdiv_shr h 32
    rw [e1, xorR]; simp only [Option.bind_some]
    rw [← I_G, timesR]; simp only [Option.bind_some]
    have e2 : ∀ y, IntKind.u64.wrap (Int.tdiv (I y) 536870912) = I (y >>> 29) := fun y => tdiv_shr y 29
    rw [e2, xorR]; rfl
  | succ d ih =>
    intro k i h hd hk
    obtain ⟨k, rfl⟩ : ∃ m, k = m + 1 := ⟨k - 1, by omega⟩
    have hlt : i < s.size := by omega
    simp only [sprocketref03_Hash.l0]
    rw [if_pos (by omega), if_pos (by omega), bt_drop s i hlt, bt_at s i hlt]
    have e1 : IntKind.u64.wrap (s[i].toNat : Int) = I (wide s[i]) := by
      have := s[i].toNat_lt
      rw [I_wide, wrap_in (by omega) (by omega)]
    have e2 : wrap64 ((i : Int) + 1) = ((i + 1 : Nat) : Int) := by unfold wrap64; omega
    rw [e1, xorR]; simp only [Option.bind_some]
    rw [← I_P, timesR]; simp only [Option.bind_some]
    rw [e2, ih k (i + 1) _ (by omega) (by omega)]
    rfl
theorem HashR (k : Nat) (s : ByteArray) (hs : s.size ≤ 140737488351232) (hk : s.size < k) (h : BitVec 64) : sprocketref03_Hash.f k (I h) s = some (I (hashB h s.data.toList)) := by
  have := HashR_l0 s hs s.size k 0 h (by omega) hk
  rw [List.drop_zero] at this
  exact this

/-! the parts -/
theorem StartR (h : BitVec 64) : sprocketref03_Start.f (I h) = mix_Start.f (I h) := by
  unfold sprocketref03_Start.f mix_Start.f
  have e : IntKind.u64.wrap (Int.tdiv (I h) 128) = I (h >>> 7) := tdiv_shr h 7
  have e' : I h / (128 : Int) = I (h >>> 7) := (I_shr h 7).symm
  rw [e, e']
theorem and127 (h : BitVec 64) : Go.bits .and .u64 (I h) 127 = I h % 128 := bits_mask .u64 64 (by decide) (fun n a b => wrap_in a (by simpa using b)) 7 (by decide) (I h) (I_nonneg h) (by have := I_lt h; simpa using this)
theorem or128 (x : Int) (h : 0 ≤ x) (h' : x < 128) : Go.bits .or .u64 x 128 = 128 + x := by
  obtain ⟨a, rfl⟩ := I_of h (by omega)
  have e : (128 : Int) = I 128#64 := by decide +kernel
  rw [e, bits_or, BitVec.or_comm, ← bits_or, ← e]
  exact bits_join .u64 64 (by decide) (fun n a b => wrap_in a (by simpa using b)) 7 128 (I a) (by decide) (by decide) (by decide) h (by simpa using h') (by have := I_lt a; simpa using this)
theorem Claim (h : BitVec 64) : mix_Claim.f (I h) = some (128 + I h % 128) := by
  unfold mix_Claim.f
  rw [and127, or128 _ (by omega) (by omega)]
  exact congrArg some (by unfold wrap64; omega)
theorem ClaimR (h : BitVec 64) : sprocketref03_Claim.f (I h) = some (128 + I h % 128) := by
  unfold sprocketref03_Claim.f
  rw [Int.tmod_eq_emod_of_nonneg (I_nonneg h)]
  exact congrArg some (by unfold wrap64; omega)
end Go.Proofs.Ytaodaonbkfgoeaa.MixB
