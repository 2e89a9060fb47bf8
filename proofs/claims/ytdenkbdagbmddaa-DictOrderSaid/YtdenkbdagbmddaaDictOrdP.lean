/- dict: the plain law of DictOrder: the last one put at a key stands there, whatever was put ahead; sorted maps that answer alike are one. -/
import Derived.Test.YtdenkbdagbmddaaDictKept
namespace Go.Proofs.Ytdenkbdagbmddaa.DcO
open Go.RowKit Go.Shelf Dc DcM DcW DcI DcR DcL
set_option linter.unusedVariables false
set_option linter.unusedSimpArgs false
theorem at_put_other {m : List Pr} {k k' : ByteArray} (v : ByteArray) (hs : Sorted m) (hne : k' ≠ k) : at_ k' (put m k v) = at_ k' m := by
  have e : at_ k' (put m k v) = at_ k' (below k m) ++ at_ k' (above k m) := by
    unfold at_ put
    rw [List.filter_append, List.filter_cons_of_neg (by simpa using fun e : k = k' => hne e.symm)]
  have h2 : at_ k' (at_ k m) = [] := by
    unfold at_
    rw [List.filter_filter, List.filter_eq_nil_iff]
    intro p _
    simp only [Bool.and_eq_true, decide_eq_true_eq, not_and]
    intro e1 e2
    exact hne (e1.symm.trans e2)
  have e3 : at_ k' m = at_ k' (below k m) ++ (at_ k' (at_ k m) ++ at_ k' (above k m)) := by
    conv => lhs; rw [split (k := k) hs]
    unfold at_
    rw [List.filter_append, List.filter_append]
  rw [e, e3, h2, List.nil_append]
theorem dget_put_other {m : List Pr} {k k' : ByteArray} (v : ByteArray) (hs : Sorted m) (hne : k' ≠ k) : dget (put m k v) k' = dget m k' := by
  unfold dget
  rw [at_put_other v hs hne]
theorem at_put_same {m : List Pr} (k v : ByteArray) : at_ k (put m k v) = [(k, v)] := by
  have h1 : at_ k (below k m) = [] := by
    unfold at_
    rw [List.filter_eq_nil_iff]
    intro p hp
    have := lt_ne (below_mem hp)
    simpa using this
  have h2 : at_ k (above k m) = [] := by
    unfold at_
    rw [List.filter_eq_nil_iff]
    intro p hp
    have := lt_ne (above_mem hp)
    simpa using fun e => this e.symm
  unfold at_ at h1 h2 ⊢
  unfold put
  rw [List.filter_append, List.filter_cons_of_pos (by simp), h1, h2]
  rfl
theorem dget_put_same {m : List Pr} (k v : ByteArray) : dget (put m k v) k = (v, true) := by unfold dget; rw [at_put_same]
theorem dget_mem {m : List Pr} {k v : ByteArray} (hs : Sorted m) : dget m k = (v, true) ↔ (k, v) ∈ m := by
  constructor
  · intro h
    rcases at_cases (k := k) hs with h0 | ⟨u, hu⟩
    · unfold dget at h; rw [h0] at h; cases h
    · have hmem : (k, u) ∈ at_ k m := by rw [hu]; simp
      unfold dget at h
      rw [hu] at h
      injection h with h _
      subst h
      exact (List.mem_filter.1 hmem).1
  · intro h
    have hmem : (k, v) ∈ at_ k m := List.mem_filter.2 ⟨h, by simp⟩
    rcases at_cases (k := k) hs with h0 | ⟨u, hu⟩
    · rw [h0] at hmem; cases hmem
    · rw [hu] at hmem
      simp at hmem
      subst hmem
      unfold dget
      rw [hu]
theorem ext_mem : ∀ {m n : List Pr}, Sorted m → Sorted n → (∀ p, p ∈ m ↔ p ∈ n) → m = n
  | [], [], _, _, _ => rfl
  | [], q :: n, _, _, h => by have := (h q).2 (by simp); cases this
  | p :: m, [], _, _, h => by have := (h p).1 (by simp); cases this
  | p :: m, q :: n, hm, hn, h => by
    obtain ⟨h1, h2⟩ := List.pairwise_cons.1 hm
    obtain ⟨g1, g2⟩ := List.pairwise_cons.1 hn
    have hpq : p = q := by
      rcases List.mem_cons.1 ((h p).1 (by simp)) with e | e
      · exact e
      · rcases List.mem_cons.1 ((h q).2 (by simp)) with e' | e'
        · exact e'.symm
        · have a := g1 p e
          have b := h1 q e'
          have := lt_trans a b
          rw [lt_irrefl] at this
          cases this
    subst hpq
    rw [ext_mem h2 g2 fun r => ?_]
    constructor
    · intro hr
      rcases List.mem_cons.1 ((h r).1 (by simp [hr])) with e | e
      · subst e
        have := h1 r hr
        rw [lt_irrefl] at this
        cases this
      · exact e
    · intro hr
      rcases List.mem_cons.1 ((h r).2 (by simp [hr])) with e | e
      · subst e
        have := g1 r hr
        rw [lt_irrefl] at this
        cases this
      · exact e
theorem ext_get {m n : List Pr} (hm : Sorted m) (hn : Sorted n) (h : ∀ k, dget m k = dget n k) : m = n := by
  refine ext_mem hm hn fun p => ?_
  obtain ⟨k, v⟩ := p
  rw [← dget_mem hm, ← dget_mem hn, h k]
/-- What has been put. -/
def puts (m : List Pr) (l : List Pr) : List Pr := l.foldl (fun m p => put m p.1 p.2) m
theorem sorted_puts : ∀ (l m : List Pr), Sorted m → Sorted (puts m l)
  | [], m, h => h
  | p :: l, m, h => sorted_puts l _ (sorted_put _ _ h)
theorem length_puts : ∀ (l m : List Pr), Sorted m → (puts m l).length ≤ m.length + l.length
  | [], m, h => by simp [puts]
  | p :: l, m, h => by
    have h1 := length_puts l _ (sorted_put p.1 p.2 h)
    have h2 := length_put p.1 p.2 h
    show (puts (put m p.1 p.2) l).length ≤ _
    simp only [List.length_cons]
    omega
theorem puts_snoc (m l : List Pr) (p : Pr) : puts m (l ++ [p]) = put (puts m l) p.1 p.2 := by unfold puts; rw [List.foldl_append]; rfl
/-- The last one that is put at a key; else what was there. -/
theorem puts_get (k : ByteArray) : ∀ (l m n : List Pr), Sorted m → Sorted n → dget m k = dget n k ∨ (∃ p ∈ l, p.1 = k) → dget (puts m l) k = dget (puts n l) k
  | [], m, n, _, _, h => by
    rcases h with h | ⟨p, hp, _⟩
    · exact h
    · cases hp
  | p :: l, m, n, hm, hn, h => by
    refine puts_get k l _ _ (sorted_put _ _ hm) (sorted_put _ _ hn) ?_
    by_cases e : p.1 = k
    · left
      subst e
      rw [dget_put_same, dget_put_same]
    · rcases h with h | ⟨q, hq, hk⟩
      · left
        rw [dget_put_other _ hm (fun x => e x.symm), dget_put_other _ hn (fun x => e x.symm)]
        exact h
      · rcases List.mem_cons.1 hq with e2 | e2
        · subst e2; exact absurd hk e
        · exact Or.inr ⟨q, e2, hk⟩
theorem puts_none (k : ByteArray) : ∀ (l m : List Pr), Sorted m → (∀ p ∈ l, p.1 ≠ k) → dget (puts m l) k = dget m k
  | [], m, _, _ => rfl
  | p :: l, m, hm, h => by
    rw [show puts m (p :: l) = puts (put m p.1 p.2) l from rfl, puts_none k l _ (sorted_put _ _ hm) (fun q hq => h q (by simp [hq])), dget_put_other _ hm (fun x => h p (by simp) x.symm)]
theorem puts_has (k : ByteArray) : ∀ (l m : List Pr), Sorted m → (∃ p ∈ l, p.1 = k) ∨ (dget m k).2 = true → (dget (puts m l) k).2 = true
  | [], m, _, h => by
    rcases h with ⟨p, hp, _⟩ | h
    · cases hp
    · exact h
  | p :: l, m, hm, h => by
    refine puts_has k l _ (sorted_put _ _ hm) ?_
    by_cases e : p.1 = k
    · right; subst e; rw [dget_put_same]
    · rcases h with ⟨q, hq, hk⟩ | h
      · rcases List.mem_cons.1 hq with e2 | e2
        · subst e2; exact absurd hk e
        · exact Or.inl ⟨q, e2, hk⟩
      · right; rw [dget_put_other _ hm (fun x => e x.symm)]; exact h
/-- The keys, without values, from the last one on. -/
def bare (l : List Pr) : List Pr := l.reverse.map fun p => (p.1, (⟨#[]⟩ : ByteArray))
/-- In whatever order they came. -/
theorem order_eq (l : List Pr) : puts [] l = puts (puts [] (bare l)) l := by
  refine ext_get (sorted_puts _ _ List.Pairwise.nil) (sorted_puts _ _ (sorted_puts _ _ List.Pairwise.nil)) fun k => ?_
  refine puts_get k l _ _ List.Pairwise.nil (sorted_puts _ _ List.Pairwise.nil) ?_
  by_cases h : ∃ p ∈ l, p.1 = k
  · exact Or.inr h
  · left
    rw [puts_none k (bare l) [] List.Pairwise.nil ?_]
    intro p hp e
    unfold bare at hp
    obtain ⟨q, hq, rfl⟩ := List.mem_map.1 hp
    exact h ⟨q, List.mem_reverse.1 hq, e⟩
theorem bare_snoc {l : List Pr} {k : Nat} {p : Pr} (h : l[l.length - 1 - k]? = some p) (hk : k < l.length) : (bare l).take (k + 1) = (bare l).take k ++ [(p.1, (⟨#[]⟩ : ByteArray))] := by
  have hb : (bare l)[k]? = some (p.1, (⟨#[]⟩ : ByteArray)) := by
    unfold bare
    rw [List.getElem?_map, List.getElem?_reverse hk, h]
    rfl
  rw [List.take_add_one, hb]
  rfl
theorem bare_len (l : List Pr) : (bare l).length = l.length := by unfold bare; simp
end Go.Proofs.Ytdenkbdagbmddaa.DcO
