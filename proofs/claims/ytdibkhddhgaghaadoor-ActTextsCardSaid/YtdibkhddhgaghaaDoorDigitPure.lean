/- The plain law of decimal numbers: digits and their value, forth and back, on lists of bytes. No program in sight. -/
import Derived.Lib.ItoaNum
import Derived.Lib.AtoiAll
import Derived.Lib.ParseIntB
namespace Go.Proofs.YtdibkhddhgaghaaDoor.Dg
open Go.Lib (decDigits itoa parseUint10 parseUintM NumEnd atoiAll parseMag parseUintB)
def isD (c : UInt8) : Bool := decide (48 ≤ c.toNat ∧ c.toNat ≤ 57)
def val (acc : Nat) : List UInt8 → Nat
  | [] => acc
  | c :: r => val (acc * 10 + (c.toNat - 48)) r
def plain (l : List UInt8) (most : Nat) : Bool := decide (l ≠ [] ∧ l.length ≤ most ∧ ¬ (l.head? = some 48 ∧ 1 < l.length)) && l.all isD
def neg (l : List UInt8) : Bool := decide (l.head? = some 45)
def rest (l : List UInt8) : List UInt8 := if neg l then l.tail else l
def num (l : List UInt8) : Int := if neg l then -(val 0 (rest l) : Int) else (val 0 (rest l) : Int)
def good (l : List UInt8) : Bool := plain (rest l) 18 && decide (l ≠ [45, 48])
def parse (l : List UInt8) (least most : Int) : Int × Int := if good l then (if num l < least ∨ most < num l then (0, 5) else (num l, 0)) else (0, 3)
def word (l : List UInt8) : Int × Int := if plain l 20 then (if 18446744073709551616 ≤ val 0 l then (0, 5) else (val 0 l, 0)) else (0, 3)

theorem isD_iff (c : UInt8) : isD c = true ↔ 48 ≤ c.toNat ∧ c.toNat ≤ 57 := by unfold isD; exact decide_eq_true_iff
theorem val_one (acc : Nat) (c : UInt8) : val acc [c] = acc * 10 + (c.toNat - 48) := rfl
theorem val_append : ∀ (l r : List UInt8) (acc : Nat), val acc (l ++ r) = val (val acc l) r
  | [], _, _ => rfl
  | _ :: l, r, _ => val_append l r _
theorem val_ge (l : List UInt8) : ∀ acc, acc ≤ val acc l := by
  induction l with
  | nil => intro acc; exact Nat.le_refl _
  | cons c l ih =>
    intro acc
    have h := ih (acc * 10 + (c.toNat - 48))
    show acc ≤ val (acc * 10 + (c.toNat - 48)) l
    generalize val (acc * 10 + (c.toNat - 48)) l = v at h ⊢
    omega
theorem lt_step (acc d v p : Nat) (hd : d ≤ 9) (hv : v < (acc * 10 + d + 1) * p) : v < (acc + 1) * (p * 10) := by
  have e : (acc * 10 + d + 1) * p ≤ ((acc + 1) * 10) * p := Nat.mul_le_mul_right _ (by omega)
  have e2 : ((acc + 1) * 10) * p = (acc + 1) * (p * 10) := by rw [Nat.mul_assoc, Nat.mul_comm 10]
  rw [← e2]
  exact Nat.lt_of_lt_of_le hv e
theorem val_lt (l : List UInt8) : ∀ acc, l.all isD = true → val acc l < (acc + 1) * 10 ^ l.length := by
  induction l with
  | nil =>
    intro acc _
    show acc < (acc + 1) * 10 ^ 0
    omega
  | cons c l ih =>
    intro acc h
    rw [List.all_cons, Bool.and_eq_true, isD_iff] at h
    exact lt_step acc (c.toNat - 48) _ _ (by omega) (ih (acc * 10 + (c.toNat - 48)) h.2)
theorem parse10_ok (l : List UInt8) : ∀ acc, l.all isD = true → val acc l < 18446744073709551616 → parseUint10 acc l = .ok (val acc l) := by
  induction l with
  | nil => intro acc _ _; rfl
  | cons c l ih =>
    intro acc h hv
    rw [List.all_cons, Bool.and_eq_true, isD_iff] at h
    have hv' : val (acc * 10 + (c.toNat - 48)) l < 18446744073709551616 := hv
    have g := val_ge l (acc * 10 + (c.toNat - 48))
    have hi := ih (acc * 10 + (c.toNat - 48)) h.2 hv'
    have g' : acc * 10 + (c.toNat - 48) < 18446744073709551616 := Nat.lt_of_le_of_lt g hv'
    clear g hv hv' ih
    show parseUint10 acc (c :: l) = .ok (val (acc * 10 + (c.toNat - 48)) l)
    rw [parseUint10, if_pos h.1, if_neg (by omega), if_neg (by omega), hi]
theorem parse10_range (l : List UInt8) : ∀ acc, l.all isD = true → acc < 18446744073709551616 → 18446744073709551616 ≤ val acc l → parseUint10 acc l = .range := by
  induction l with
  | nil => intro acc _ ha hv; exact absurd hv (by show ¬ _ ≤ acc; omega)
  | cons c l ih =>
    intro acc h ha hv
    rw [List.all_cons, Bool.and_eq_true, isD_iff] at h
    have hv' : 18446744073709551616 ≤ val (acc * 10 + (c.toNat - 48)) l := hv
    clear hv
    rw [parseUint10, if_pos h.1]
    by_cases h1 : 1844674407370955162 ≤ acc
    · rw [if_pos h1]
    · rw [if_neg h1]
      by_cases h2 : 18446744073709551616 ≤ acc * 10 + (c.toNat - 48)
      · rw [if_pos h2]
      · rw [if_neg h2, ih _ h.2 (Nat.lt_of_not_le h2) hv']
theorem parseM_64 : ∀ (l : List UInt8) (acc : Nat), parseUintM (2 ^ 64 - 1) acc l = parseUint10 acc l
  | [], acc => rfl
  | c :: l, acc => by
    simp only [parseUintM, parseUint10]
    by_cases h : 48 ≤ c.toNat ∧ c.toNat ≤ 57
    · rw [if_pos h, if_pos h]
      by_cases h1 : 1844674407370955162 ≤ acc
      · rw [if_pos h1, if_pos h1]
      · rw [if_neg h1, if_neg h1, parseM_64 l]
        by_cases h2 : 18446744073709551616 ≤ acc * 10 + (c.toNat - 48)
        · rw [if_pos (by omega), if_pos h2]
        · rw [if_neg (by omega), if_neg h2]
    · rw [if_neg h, if_neg h]
theorem plain_iff {l : List UInt8} {m : Nat} : plain l m = true ↔ (l ≠ [] ∧ l.length ≤ m ∧ ¬ (l.head? = some 48 ∧ 1 < l.length)) ∧ l.all isD = true := by
  unfold plain; rw [Bool.and_eq_true, decide_eq_true_iff]
theorem uint_ok {l : List UInt8} (h : plain l 20 = true) (hv : val 0 l < 18446744073709551616) : parseUintB 64 l = .ok (val 0 l) := by
  obtain ⟨⟨h0, _⟩, h1⟩ := plain_iff.mp h
  unfold parseUintB
  rw [if_neg h0, parseM_64, parse10_ok l 0 h1 hv]
theorem uint_range {l : List UInt8} (h : plain l 20 = true) (hv : ¬ val 0 l < 18446744073709551616) : parseUintB 64 l = .range := by
  obtain ⟨⟨h0, _⟩, h1⟩ := plain_iff.mp h
  unfold parseUintB
  rw [if_neg h0, parseM_64, parse10_range l 0 h1 (by omega) (by omega)]
theorem val18 {l : List UInt8} (h : plain l 18 = true) : val 0 l < 1000000000000000000 := by
  obtain ⟨⟨_, h0, _⟩, h1⟩ := plain_iff.mp h
  have := val_lt l 0 h1
  have e : 10 ^ l.length ≤ 10 ^ 18 := Nat.pow_le_pow_right (by omega) h0
  omega
theorem atoi_ok {l : List UInt8} (h : good l = true) : atoiAll l = .ok (num l) := by
  unfold good at h
  rw [Bool.and_eq_true] at h
  obtain ⟨hp, _⟩ := h
  have hv := val18 hp
  obtain ⟨⟨h0, _⟩, h1⟩ := plain_iff.mp hp
  have hm : parseMag (rest l) = .ok (val 0 (rest l)) := by
    unfold parseMag
    rw [if_neg h0, parse10_ok _ 0 h1 (by omega)]
  cases l with
  | nil => exact absurd rfl h0
  | cons c r =>
    by_cases hc : c = 45
    · subst hc
      have hn : neg ((45 : UInt8) :: r) = true := rfl
      have hr : rest ((45 : UInt8) :: r) = r := rfl
      rw [hr] at hm hv
      unfold atoiAll num
      rw [hn, hr]
      have e : (if (45 : UInt8).toNat = 43 ∨ (45 : UInt8).toNat = 45 then r else 45 :: r) = r := rfl
      simp only [e, hm]
      rw [if_neg (by intro q; exact q.1 rfl), if_neg (by omega)]
      rfl
    · have hn : neg (c :: r) = false := by unfold neg; simp [hc]
      have hr : rest (c :: r) = c :: r := by unfold rest; rw [hn]; rfl
      rw [hr] at hm hv h1
      rw [List.all_cons, Bool.and_eq_true, isD_iff] at h1
      unfold atoiAll num
      rw [hn, hr]
      have e : (if c.toNat = 43 ∨ c.toNat = 45 then r else c :: r) = c :: r := by rw [if_neg (by omega)]
      simp only [e, hm]
      rw [if_neg (by omega), if_neg (by omega), if_neg (by omega)]
      rfl
theorem num_bound {l : List UInt8} (h : good l = true) : -1000000000000000000 < num l ∧ num l < 1000000000000000000 := by
  unfold good at h
  rw [Bool.and_eq_true] at h
  have hv := val18 h.1
  unfold num
  split <;> omega

/-! the numeral of a number -/
theorem dig_byte (u : Nat) (h : u < 10) : (UInt8.ofNat (48 + u)).toNat = 48 + u := UInt8.toNat_ofNat_of_lt' (by show _ < 256; omega)
theorem dec_small {u : Nat} (h : u < 10) : decDigits u = [UInt8.ofNat (48 + u)] := by rw [decDigits, dif_pos h]
theorem dec_big {u : Nat} (h : ¬ u < 10) : decDigits u = decDigits (u / 10) ++ [UInt8.ofNat (48 + u % 10)] := by rw [decDigits, dif_neg h]
theorem dec_facts (u : Nat) : (decDigits u).all isD = true ∧ val 0 (decDigits u) = u ∧ decDigits u ≠ [] ∧ (0 < u → (decDigits u).head? ≠ some 48) := by
  induction u using Nat.strongRecOn with
  | _ u ih =>
    by_cases h : u < 10
    · rw [dec_small h]
      have hb := dig_byte u h
      refine ⟨by simp [isD_iff]; omega, by rw [val_one, hb]; omega, by simp, ?_⟩
      intro h0 he
      have : UInt8.ofNat (48 + u) = 48 := by simpa using he
      have := congrArg UInt8.toNat this
      rw [hb] at this
      have : (48 : UInt8).toNat = 48 := rfl
      omega
    · rw [dec_big h]
      obtain ⟨h1, h2, h3, h4⟩ := ih (u / 10) (by omega)
      have hb := dig_byte (u % 10) (by omega)
      refine ⟨by rw [List.all_append, h1]; simp [isD_iff]; omega, ?_, by simp, ?_⟩
      · rw [val_append, h2, val_one, hb]; omega
      · intro _
        rw [List.head?_append]
        have h5 := h4 (by omega)
        cases e : (decDigits (u / 10)).head? with
        | none => exact absurd (List.head?_eq_none_iff.mp e) h3
        | some c => rw [e] at h5; exact h5
theorem dec_len : ∀ (k u : Nat), 0 < k → u < 10 ^ k → (decDigits u).length ≤ k
  | 0, _, h, _ => absurd h (by omega)
  | k + 1, u, _, h => by
    by_cases hu : u < 10
    · rw [dec_small hu]; simp
    · rw [dec_big hu, List.length_append, List.length_singleton]
      have hk : 0 < k := by
        rcases Nat.eq_zero_or_pos k with e | e
        · subst e; simp at h; omega
        · exact e
      have := dec_len k (u / 10) hk (by rw [Nat.pow_succ] at h; omega)
      omega
theorem dec_len_ge : ∀ (k u : Nat), 10 ^ k ≤ u → k < (decDigits u).length
  | 0, u, _ => by have := (dec_facts u).2.2.1; exact List.length_pos_iff.mpr this
  | k + 1, u, h => by
    have hp : 1 ≤ 10 ^ k := Nat.one_le_pow _ _ (by decide)
    rw [Nat.pow_succ] at h
    have hu : ¬ u < 10 := by omega
    rw [dec_big hu, List.length_append, List.length_singleton]
    have := dec_len_ge k (u / 10) (by omega)
    omega
theorem dec_plain {u k : Nat} (hk : 0 < k) (h : u < 10 ^ k) : plain (decDigits u) k = true := by
  obtain ⟨h1, h2, h3, h4⟩ := dec_facts u
  refine plain_iff.mpr ⟨⟨h3, dec_len k u hk h, ?_⟩, h1⟩
  rintro ⟨q1, q2⟩
  rcases Nat.eq_zero_or_pos u with e | e
  · subst e; rw [dec_small (by omega)] at q2; simp at q2
  · exact h4 e q1
theorem word_show (w : Nat) (h : w < 18446744073709551616) : word (decDigits w) = ((w : Int), 0) := by
  unfold word
  rw [if_pos (dec_plain (by omega) (by omega : w < 10 ^ 20)), (dec_facts w).2.1, if_neg (by omega)]
theorem dec_inj {a b : Nat} (h : decDigits a = decDigits b) : a = b := by rw [← (dec_facts a).2.1, ← (dec_facts b).2.1, h]
theorem dec_head (u : Nat) : (decDigits u).head? ≠ some 45 := by
  obtain ⟨h1, _, h3, _⟩ := dec_facts u
  cases e : decDigits u with
  | nil => exact absurd e h3
  | cons c r =>
    rw [e, List.all_cons, Bool.and_eq_true, isD_iff] at h1
    intro q
    have : c = 45 := by simpa using q
    subst this
    have : (45 : UInt8).toNat = 45 := rfl
    omega
theorem itoa_inj {n m : Int} (h : itoa n = itoa m) : n = m := by
  unfold itoa at h
  split at h <;> split at h
  · have := dec_inj (List.cons.inj h).2; omega
  · exact absurd (by rw [← h]; rfl) (dec_head m.toNat)
  · exact absurd (by rw [h]; rfl) (dec_head n.toNat)
  · have := dec_inj h; omega
theorem itoa_neg {n : Int} (h : n < 0) : neg (itoa n) = true ∧ rest (itoa n) = decDigits n.natAbs := by
  unfold itoa; rw [if_pos h]; exact ⟨rfl, rfl⟩
theorem itoa_pos {n : Int} (h : ¬ n < 0) : neg (itoa n) = false ∧ rest (itoa n) = decDigits n.toNat := by
  unfold itoa; rw [if_neg h]
  have : neg (decDigits n.toNat) = false := by unfold neg; exact decide_eq_false (dec_head _)
  exact ⟨this, by unfold rest; rw [this]; rfl⟩
theorem itoa_num (n : Int) : num (itoa n) = n := by
  unfold num
  by_cases h : n < 0
  · rw [(itoa_neg h).1, (itoa_neg h).2, (dec_facts _).2.1]; show -((n.natAbs : Nat) : Int) = n; omega
  · rw [(itoa_pos h).1, (itoa_pos h).2, (dec_facts _).2.1]; show ((n.toNat : Nat) : Int) = n; omega
theorem itoa_dash0 (n : Int) : itoa n ≠ [45, 48] := by
  intro h
  have e := itoa_num n
  rw [h] at e
  have : num [45, 48] = 0 := rfl
  rw [this] at e
  subst e
  have : itoa 0 = [48] := by unfold itoa; rw [if_neg (by omega)]; exact dec_small (by decide)
  rw [this] at h
  cases h
theorem itoa_good {n : Int} (h1 : -1000000000000000000 < n) (h2 : n < 1000000000000000000) : good (itoa n) = true := by
  unfold good
  rw [Bool.and_eq_true]
  refine ⟨?_, decide_eq_true (itoa_dash0 n)⟩
  by_cases h : n < 0
  · rw [(itoa_neg h).2]; exact dec_plain (by omega) (by omega)
  · rw [(itoa_pos h).2]; exact dec_plain (by omega) (by omega)
theorem itoa_bad {n : Int} (h : ¬ (-1000000000000000000 < n ∧ n < 1000000000000000000)) : good (itoa n) = false := by
  unfold good
  rw [Bool.and_eq_false_iff]
  left
  have key : ∀ u : Nat, 10 ^ 18 ≤ u → plain (decDigits u) 18 = false := fun u hu => by
    rw [← Bool.not_eq_true, plain_iff]
    rintro ⟨⟨_, q, _⟩, _⟩
    have := dec_len_ge 18 u hu
    omega
  by_cases h0 : n < 0
  · rw [(itoa_neg h0).2]; exact key _ (by omega)
  · rw [(itoa_pos h0).2]; exact key _ (by omega)
theorem parse_back {n : Int} (h1 : -1000000000000000000 < n) (h2 : n < 1000000000000000000) : parse (itoa n) (-999999999999999999) 999999999999999999 = (n, 0) := by
  unfold parse
  rw [if_pos (itoa_good h1 h2), itoa_num, if_neg (by omega)]
theorem parse_far {n : Int} (h : ¬ (-1000000000000000000 < n ∧ n < 1000000000000000000)) : parse (itoa n) (-999999999999999999) 999999999999999999 = (0, 3) := by
  unfold parse
  rw [itoa_bad h]; rfl
end Go.Proofs.YtdibkhddhgaghaaDoor.Dg
