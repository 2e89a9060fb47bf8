/- The plain law of hexadecimal texts: bytes as digits and back, on lists of bytes. No program in sight. -/
import Derived.KernelRfl
namespace Go.Proofs.YtdibkhddhgaghaaDoor.Hx
def dig (n : Nat) : UInt8 := if n < 10 then UInt8.ofNat (48 + n) else UInt8.ofNat (87 + n)
def two (c : UInt8) : List UInt8 := [dig (c.toNat / 16), dig (c.toNat % 16)]
def print (l : List UInt8) : List UInt8 := if l = [] then [45] else l.flatMap two
def worth (c : Nat) : Nat := if 48 ≤ c ∧ c ≤ 57 then c - 48 else if 97 ≤ c ∧ c ≤ 102 then c - 87 else 16
def pairs : List UInt8 → Option (List UInt8)
  | [] => some []
  | [_] => none
  | a :: b :: r => if worth a.toNat = 16 then none else if worth b.toNat = 16 then none else (pairs r).map (UInt8.ofNat (16 * worth a.toNat + worth b.toNat) :: ·)
def parse (t : List UInt8) : Option (List UInt8) := if t = [45] then some [] else if t = [] then none else pairs t

theorem worth_le (c : Nat) : worth c ≤ 16 := by unfold worth; split <;> (try split) <;> omega
theorem dig_toNat (n : Nat) (h : n < 16) : (dig n).toNat = if n < 10 then 48 + n else 87 + n := by
  unfold dig
  split <;> rw [UInt8.toNat_ofNat_of_lt' (by show _ < 256; omega)]
theorem worth_dig (n : Nat) (h : n < 16) : worth (dig n).toNat = n := by
  rw [dig_toNat n h]; unfold worth; split <;> (try split) <;> (try split) <;> omega
theorem dig_worth (c : UInt8) (h : worth c.toNat ≠ 16) : dig (worth c.toNat) = c := by
  apply UInt8.toNat_inj.mp
  rw [dig_toNat _ (by have := worth_le c.toNat; omega)]
  unfold worth at *
  by_cases h1 : 48 ≤ c.toNat ∧ c.toNat ≤ 57
  · rw [if_pos h1] at h ⊢
    rw [if_pos (by omega)]; omega
  · rw [if_neg h1] at h ⊢
    by_cases h2 : 97 ≤ c.toNat ∧ c.toNat ≤ 102
    · rw [if_pos h2] at h ⊢
      rw [if_neg (by omega)]; omega
    · rw [if_neg h2] at h
      exact absurd rfl h
theorem pairs_two : ∀ l : List UInt8, pairs (l.flatMap two) = some l
  | [] => rfl
  | c :: l => by
    have hc := c.toNat_lt
    have h1 := worth_dig (c.toNat / 16) (by omega)
    have h2 := worth_dig (c.toNat % 16) (by omega)
    have e : 16 * (c.toNat / 16) + c.toNat % 16 = c.toNat := by omega
    simp only [List.flatMap_cons, two, List.cons_append, List.nil_append, pairs, h1, h2, e]
    rw [if_neg (by omega), if_neg (by omega), pairs_two l]
    simp
theorem two_pairs : ∀ (t y : List UInt8), pairs t = some y → y.flatMap two = t
  | [], y, h => by simp [pairs] at h; subst h; rfl
  | [_], y, h => by simp [pairs] at h
  | a :: b :: r, y, h => by
    unfold pairs at h
    split at h
    · cases h
    · split at h
      · cases h
      · rename_i ha hb
        obtain ⟨z, hz, rfl⟩ := Option.map_eq_some_iff.mp h
        have wa := worth_le a.toNat
        have wb := worth_le b.toNat
        have e : (UInt8.ofNat (16 * worth a.toNat + worth b.toNat)).toNat = 16 * worth a.toNat + worth b.toNat := UInt8.toNat_ofNat_of_lt' (by show _ < 256; omega)
        have e1 : (16 * worth a.toNat + worth b.toNat) / 16 = worth a.toNat := by omega
        have e2 : (16 * worth a.toNat + worth b.toNat) % 16 = worth b.toNat := by omega
        simp only [List.flatMap_cons, two, e, e1, e2, dig_worth a ha, dig_worth b hb, List.cons_append, List.nil_append]
        rw [two_pairs r z hz]
theorem two_nil (l : List UInt8) : l.flatMap two = [] ↔ l = [] := by
  cases l with
  | nil => simp
  | cons c l => simp [two]
theorem two_dash (l : List UInt8) : l.flatMap two ≠ [45] := by
  intro h
  have := congrArg List.length h
  cases l with
  | nil => simp at this
  | cons c l => simp [two] at this
theorem parse_print (l : List UInt8) : parse (print l) = some l := by
  unfold print
  by_cases h : l = []
  · subst h; rfl
  · rw [if_neg h]
    unfold parse
    rw [if_neg (two_dash l), if_neg (fun e => h ((two_nil l).mp e)), pairs_two]
theorem print_parse (t y : List UInt8) (h : parse t = some y) : print y = t := by
  unfold parse at h
  split at h
  · rename_i e; cases h; rw [e]; rfl
  · split at h
    · cases h
    · rename_i h1 h2
      have e := two_pairs t y h
      unfold print
      rw [if_neg (fun k => h2 (by rw [← e, k]; rfl)), e]
theorem length_two (l : List UInt8) : (l.flatMap two).length = 2 * l.length := by
  induction l with
  | nil => rfl
  | cons c l ih => simp [two, ih]; omega
theorem length_print (l : List UInt8) : (print l).length ≤ 2 * l.length + 1 := by
  unfold print
  split
  · simp
  · rw [length_two]; omega
theorem length_pairs : ∀ (t y : List UInt8), pairs t = some y → 2 * y.length = t.length := fun t y h => by rw [← two_pairs t y h, length_two]
theorem length_parse (t y : List UInt8) (h : parse t = some y) : 2 * y.length ≤ t.length := by
  unfold parse at h
  split at h
  · cases h; simp
  · split at h
    · cases h
    · have := length_pairs t y h; omega

/-- what has been decoded of the first k bytes, if all are digits -/
def dec : List UInt8 → List UInt8
  | a :: b :: r => UInt8.ofNat (16 * worth a.toNat + worth b.toNat) :: dec r
  | _ => []
theorem dec_snoc2 : ∀ (l : List UInt8) (a b : UInt8), l.length % 2 = 0 → dec (l ++ [a, b]) = dec l ++ [UInt8.ofNat (16 * worth a.toNat + worth b.toNat)]
  | [], _, _, _ => rfl
  | [_], _, _, h => by simp at h
  | x :: y :: r, a, b, h => by
    have h' : r.length % 2 = 0 := by simp at h; omega
    simp only [List.cons_append, dec, dec_snoc2 r a b h']
theorem dec_snoc1 : ∀ (l : List UInt8) (a : UInt8), l.length % 2 = 0 → dec (l ++ [a]) = dec l
  | [], _, _ => rfl
  | [_], _, h => by simp at h
  | x :: y :: r, a, h => by
    have h' : r.length % 2 = 0 := by simp at h; omega
    simp only [List.cons_append, dec, dec_snoc1 r a h']
theorem dec_length : ∀ l : List UInt8, (dec l).length = l.length / 2
  | [] => rfl
  | [_] => by simp [dec]
  | x :: y :: r => by simp only [dec, List.length_cons, dec_length r]; omega
theorem pairs_dec : ∀ l : List UInt8, l.length % 2 = 0 → (∀ c ∈ l, worth c.toNat ≠ 16) → pairs l = some (dec l)
  | [], _, _ => rfl
  | [_], h, _ => by simp at h
  | x :: y :: r, h, hw => by
    have h' : r.length % 2 = 0 := by simp at h; omega
    simp only [pairs, dec]
    rw [if_neg (hw x (by simp)), if_neg (hw y (by simp)), pairs_dec r h' (fun c hc => hw c (by simp [hc]))]
    rfl
theorem pairs_bad : ∀ (l : List UInt8) (c : UInt8), c ∈ l → worth c.toNat = 16 → pairs l = none
  | [], _, h, _ => by cases h
  | [_], _, _, _ => rfl
  | x :: y :: r, c, h, hw => by
    unfold pairs
    split
    · rfl
    · split
      · rfl
      · rename_i h1 h2
        have hc : c ∈ r := by
          rcases List.mem_cons.mp h with rfl | h
          · exact absurd hw h1
          · rcases List.mem_cons.mp h with rfl | h
            · exact absurd hw h2
            · exact h
        rw [pairs_bad r c hc hw]; rfl
theorem pairs_odd : ∀ l : List UInt8, l.length % 2 = 1 → pairs l = none
  | [], h => by simp at h
  | [_], _ => rfl
  | x :: y :: r, h => by
    have h' : r.length % 2 = 1 := by simp at h; omega
    unfold pairs
    split
    · rfl
    · split
      · rfl
      · rw [pairs_odd r h']; rfl
end Go.Proofs.YtdibkhddhgaghaaDoor.Hx
