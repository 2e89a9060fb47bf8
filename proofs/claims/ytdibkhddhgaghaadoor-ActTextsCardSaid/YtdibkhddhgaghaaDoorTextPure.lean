/- texts cut at a byte, and joined by it (no program). -/
import Derived.Lib.Split
import Derived.Lib.Join
namespace Go.Proofs.YtdibkhddhgaghaaDoor.Tx
open Go.Lib
/-- The parts of a text, between bytes b. -/
def sp (b : UInt8) : List UInt8 → List (List UInt8)
  | [] => [[]]
  | c :: t => if c = b then [] :: sp b t else match sp b t with
    | [] => [[c]]
    | p :: ps => (c :: p) :: ps
theorem sp_ne (b : UInt8) : ∀ l, sp b l ≠ []
  | [] => by simp [sp]
  | c :: t => by
    unfold sp
    split
    · simp
    · split <;> simp
theorem sp_miss {b : UInt8} : ∀ {l : List UInt8}, b ∉ l → sp b l = [l]
  | [], _ => rfl
  | c :: t, h => by
    have h1 : ¬ c = b := fun e => h (by rw [e]; exact List.mem_cons_self)
    have h2 : b ∉ t := fun e => h (List.mem_cons_of_mem _ e)
    unfold sp
    rw [if_neg h1, sp_miss h2]
theorem sp_hit {b : UInt8} {y : List UInt8} : ∀ {x : List UInt8}, b ∉ x → sp b (x ++ b :: y) = x :: sp b y
  | [], _ => by
    show sp b (b :: y) = _
    conv => lhs; unfold sp
    rw [if_pos rfl]
  | c :: t, h => by
    have h1 : ¬ c = b := fun e => h (by rw [e]; exact List.mem_cons_self)
    have h2 : b ∉ t := fun e => h (List.mem_cons_of_mem _ e)
    show sp b (c :: (t ++ b :: y)) = _
    conv => lhs; unfold sp
    rw [if_neg h1, sp_hit h2]
/-- Every text has no b, or has a first one. -/
theorem first_b (b : UInt8) : ∀ l : List UInt8, b ∉ l ∨ ∃ x y, l = x ++ b :: y ∧ b ∉ x
  | [] => Or.inl (by simp)
  | c :: t => by
    by_cases h : c = b
    · exact Or.inr ⟨[], t, by rw [h]; rfl, by simp⟩
    · rcases first_b b t with h1 | ⟨x, y, rfl, h1⟩
      · exact Or.inl (by simp [h1, Ne.symm h])
      · exact Or.inr ⟨c :: x, y, rfl, by simp [h1, Ne.symm h]⟩
theorem occ_iff (l : List UInt8) (b : UInt8) (i : Nat) : occAt l [b] i = true ↔ l[i]? = some b := by
  unfold occAt
  cases h : l.drop i with
  | nil =>
    have : l.length ≤ i := List.drop_eq_nil_iff.1 h
    rw [List.getElem?_eq_none this]
    simp
  | cons c t =>
    have hi : i < l.length := by
      have := congrArg List.length h
      simp at this
      omega
    have : l[i]? = some c := by
      have := congrArg (·[0]?) h
      simpa using this
    rw [this]
    simp [List.isPrefixOf]
    exact eq_comm
theorem index_miss {b : UInt8} {l : List UInt8} (h : b ∉ l) : index l [b] = -1 := by
  refine index_none fun j _ => ?_
  by_cases hq : occAt l [b] j = true
  · exact absurd (List.mem_of_getElem? ((occ_iff l b j).1 hq)) h
  · simpa using hq
theorem index_hit {b : UInt8} {x y : List UInt8} (h : b ∉ x) : index (x ++ b :: y) [b] = x.length := by
  refine index_first (by simp) ((occ_iff _ _ _).2 (by simp)) fun j hj => ?_
  by_cases hq : occAt (x ++ b :: y) [b] j = true
  · have := (occ_iff _ _ _).1 hq
    rw [List.getElem?_append_left hj] at this
    exact absurd (List.mem_of_getElem? this) h
  · simpa using hq
theorem splitK_sp (b : UInt8) : ∀ (n : Nat) (l : List UInt8), l.length ≤ n → ∀ k, count l [b] ≤ k → splitK [b] 0 k l = sp b l := by
  intro n
  induction n with
  | zero =>
    intro l hl k _
    obtain rfl : l = [] := List.length_eq_zero_iff.1 (by omega)
    cases k with
    | zero => rfl
    | succ k =>
      unfold splitK
      rw [index_miss (by simp)]
      rfl
  | succ n ih =>
    intro l hl k hk
    rcases first_b b l with h | ⟨x, y, rfl, h⟩
    · rw [sp_miss h]
      cases k with
      | zero => rfl
      | succ k =>
        unfold splitK
        rw [index_miss h]
        rfl
    · have hi := index_hit (y := y) h
      have hc := count_hit (sub := [b]) (by simp) hi
      have hd : (x ++ b :: y).drop (x.length + 1) = y := by
        rw [List.drop_append]
        simp
      rw [show [b].length = 1 from rfl, hd] at hc
      cases k with
      | zero => omega
      | succ k =>
        unfold splitK
        have hm : ¬ (index (x ++ b :: y) [b] == -1) = true := fun e => by have := beq_iff_eq.1 e; omega
        rw [if_neg hm, hi, Int.toNat_natCast, show [b].length = 1 from rfl, hd, ih y (by simp at hl; omega) k (by omega), sp_hit h]
        simp
theorem split_sp (b : UInt8) (l : List UInt8) : split l [b] = sp b l := splitK_sp b _ l (Nat.le_refl _) _ (Nat.le_refl _)
/-- Joined by b. -/
def jn (b : UInt8) : List (List UInt8) → List UInt8
  | [] => []
  | [p] => p
  | p :: q :: r => p ++ b :: jn b (q :: r)
theorem join_jn (b : UInt8) : ∀ ps, join ps [b] = jn b ps
  | [] => rfl
  | [p] => by rw [join_one]; rfl
  | p :: q :: r => by
    have ih := join_jn b (q :: r)
    unfold join at ih ⊢
    rw [List.intercalate_cons_cons, ih]
    simp [jn]
theorem jn_cons {b : UInt8} {p : List UInt8} {ps : List (List UInt8)} (h : ps ≠ []) : jn b (p :: ps) = p ++ b :: jn b ps := by
  cases ps with
  | nil => exact absurd rfl h
  | cons q r => rfl
theorem jn_sp (b : UInt8) : ∀ (n : Nat) (l : List UInt8), l.length ≤ n → jn b (sp b l) = l := by
  intro n
  induction n with
  | zero =>
    intro l hl
    obtain rfl : l = [] := List.length_eq_zero_iff.1 (by omega)
    rfl
  | succ n ih =>
    intro l hl
    rcases first_b b l with h | ⟨x, y, rfl, h⟩
    · rw [sp_miss h]; rfl
    · rw [sp_hit h, jn_cons (sp_ne b y), ih y (by simp at hl; omega)]
theorem sp_back (b : UInt8) (l : List UInt8) : jn b (sp b l) = l := jn_sp b _ l (Nat.le_refl _)
theorem sp_jn {b : UInt8} : ∀ {ps : List (List UInt8)}, ps ≠ [] → (∀ p ∈ ps, b ∉ p) → sp b (jn b ps) = ps
  | [], h, _ => absurd rfl h
  | [p], _, h => sp_miss (h p (by simp))
  | p :: q :: r, _, h => by
    show sp b (p ++ b :: jn b (q :: r)) = _
    rw [sp_hit (h p (by simp)), sp_jn (by simp) (fun x hx => h x (List.mem_cons_of_mem _ hx))]
theorem sp_mem {b : UInt8} : ∀ (n : Nat) (l : List UInt8), l.length ≤ n → ∀ p ∈ sp b l, b ∉ p := by
  intro n
  induction n with
  | zero =>
    intro l hl p hp
    obtain rfl : l = [] := List.length_eq_zero_iff.1 (by omega)
    simp [sp] at hp
    simp [hp]
  | succ n ih =>
    intro l hl p hp
    rcases first_b b l with h | ⟨x, y, rfl, h⟩
    · rw [sp_miss h] at hp
      simp at hp
      rw [hp]; exact h
    · rw [sp_hit h] at hp
      rcases List.mem_cons.1 hp with rfl | hp
      · exact h
      · exact ih y (by simp at hl; omega) p hp
theorem cut_miss {b : UInt8} {l : List UInt8} (h : b ∉ l) : cut l [b] = (l, [], false) := by
  unfold cut
  rw [index_miss h]
  rfl
theorem cut_hit {b : UInt8} {x y : List UInt8} (h : b ∉ x) : cut (x ++ b :: y) [b] = (x, y, true) := by
  unfold cut
  rw [index_hit h, if_pos (by omega), Int.toNat_natCast, show [b].length = 1 from rfl]
  congr 1
  · simp
  · congr 1
    rw [List.drop_append]
    simp
end Go.Proofs.YtdibkhddhgaghaaDoor.Tx
