/- Maps from byte strings, in order: lists of pairs whose keys rise. -/
import Derived.Sort.Walk0
import Derived.Lib.Strings
namespace Go.Proofs.Ytdenkbdagbmddaa.Dc
set_option linter.unusedVariables false
/-- Is a text less than another? -/
def lt (a b : ByteArray) : Bool := Op.bytesLess a.toList b.toList
theorem lt_iff (a b : ByteArray) : lt a b = true ↔ a.data.toList < b.data.toList := by
  unfold lt
  rw [bytesLess_eq, Lib.toList_data, Lib.toList_data]
  simp
theorem lt_irrefl (a : ByteArray) : lt a a = false := by
  rw [← Bool.not_eq_true, lt_iff]
  exact List.lt_irrefl _
theorem lt_trans {a b c : ByteArray} (h : lt a b = true) (g : lt b c = true) : lt a c = true := by
  rw [lt_iff] at *
  exact List.lt_trans h g
theorem data_inj {a b : ByteArray} (h : a.data.toList = b.data.toList) : a = b := by
  obtain ⟨⟨l⟩⟩ := a
  obtain ⟨⟨m⟩⟩ := b
  cases h
  rfl
theorem lt_total (a b : ByteArray) : lt a b = true ∨ a = b ∨ lt b a = true := by
  rw [lt_iff, lt_iff]
  rcases Classical.em (a.data.toList < b.data.toList) with h | h
  · exact Or.inl h
  rcases Classical.em (b.data.toList < a.data.toList) with g | g
  · exact Or.inr (Or.inr g)
  · exact Or.inr (Or.inl (data_inj (List.le_antisymm (List.not_lt.1 g) (List.not_lt.1 h))))
theorem lt_asymm {a b : ByteArray} (h : lt a b = true) : lt b a = false := by
  rw [← Bool.not_eq_true]
  intro g
  have := lt_trans h g
  rw [lt_irrefl] at this
  cases this
theorem lt_ne {a b : ByteArray} (h : lt a b = true) : a ≠ b := fun e => by
  subst e
  rw [lt_irrefl] at h
  cases h
abbrev Pr := ByteArray × ByteArray
/-- The keys rise. -/
def Sorted (l : List Pr) : Prop := l.Pairwise fun p q => lt p.1 q.1 = true
def below (k : ByteArray) (l : List Pr) : List Pr := l.filter fun p => lt p.1 k
def above (k : ByteArray) (l : List Pr) : List Pr := l.filter fun p => lt k p.1
def at_ (k : ByteArray) (l : List Pr) : List Pr := l.filter fun p => decide (p.1 = k)
def put (l : List Pr) (k v : ByteArray) : List Pr := below k l ++ (k, v) :: above k l
def del (l : List Pr) (k : ByteArray) : List Pr := below k l ++ above k l
def dget (l : List Pr) (k : ByteArray) : ByteArray × Bool :=
  match at_ k l with
  | [] => (⟨#[]⟩, false)
  | p :: _ => (p.2, true)
theorem above_all {k : ByteArray} : ∀ {l : List Pr}, (∀ p ∈ l, lt k p.1 = true) → below k l = [] ∧ at_ k l = [] ∧ above k l = l
  | [], _ => ⟨rfl, rfl, rfl⟩
  | p :: l, h => by
    obtain ⟨a, b, c⟩ := above_all (l := l) fun q hq => h q (List.mem_cons_of_mem _ hq)
    have hp := h p List.mem_cons_self
    unfold below at_ above at *
    refine ⟨?_, ?_, ?_⟩
    · rw [List.filter_cons_of_neg (by simp [lt_asymm hp])]; exact a
    · rw [List.filter_cons_of_neg (by simpa using (lt_ne hp).symm)]; exact b
    · rw [List.filter_cons_of_pos (by simpa using hp), c]
theorem split {k : ByteArray} : ∀ {l : List Pr}, Sorted l → l = below k l ++ (at_ k l ++ above k l)
  | [], _ => rfl
  | p :: l, h => by
    obtain ⟨hp, hl⟩ := List.pairwise_cons.1 h
    rcases lt_total p.1 k with c | c | c
    · have ih := split (k := k) hl
      unfold below at_ above at *
      rw [List.filter_cons_of_pos (by simpa using c), List.filter_cons_of_neg (by simpa using lt_ne c), List.filter_cons_of_neg (by simp [lt_asymm c]), List.cons_append, ← ih]
    · obtain ⟨a1, a2, a3⟩ := above_all (k := k) (l := l) fun q hq => by rw [← c]; exact hp q hq
      unfold below at_ above at *
      rw [List.filter_cons_of_neg (by rw [c]; simp [lt_irrefl]), List.filter_cons_of_pos (by simpa using c), List.filter_cons_of_neg (by rw [c]; simp [lt_irrefl]), a1, a2, a3]
      rfl
    · obtain ⟨a1, a2, a3⟩ := above_all (k := k) (l := p :: l) fun q hq => by
        rcases List.mem_cons.1 hq with rfl | hq
        · exact c
        · exact lt_trans c (hp q hq)
      rw [a1, a2, a3]
      rfl
theorem at_cases {k : ByteArray} {l : List Pr} (h : Sorted l) : at_ k l = [] ∨ ∃ v, at_ k l = [(k, v)] := by
  have hs : (at_ k l).Pairwise fun p q => lt p.1 q.1 = true := List.Pairwise.filter _ h
  have hm : ∀ p ∈ at_ k l, p.1 = k := fun p hp => by simpa using (List.mem_filter.1 hp).2
  match hh : at_ k l with
  | [] => exact Or.inl rfl
  | [p] =>
    have := hm p (by rw [hh]; simp)
    exact Or.inr ⟨p.2, by rw [← this]⟩
  | p :: q :: r =>
    rw [hh] at hs hm
    have h1 := (List.pairwise_cons.1 hs).1 q (by simp)
    rw [hm p (by simp), hm q (by simp), lt_irrefl] at h1
    cases h1
theorem below_mem {k : ByteArray} {l : List Pr} {p : Pr} (h : p ∈ below k l) : lt p.1 k = true := by simpa using (List.mem_filter.1 h).2
theorem above_mem {k : ByteArray} {l : List Pr} {p : Pr} (h : p ∈ above k l) : lt k p.1 = true := by simpa using (List.mem_filter.1 h).2
theorem sorted_below {k : ByteArray} {l : List Pr} (h : Sorted l) : Sorted (below k l) := List.Pairwise.filter _ h
theorem sorted_above {k : ByteArray} {l : List Pr} (h : Sorted l) : Sorted (above k l) := List.Pairwise.filter _ h
theorem sorted_put {l : List Pr} (k v : ByteArray) (h : Sorted l) : Sorted (put l k v) := by
  refine List.pairwise_append.2 ⟨sorted_below h, List.pairwise_cons.2 ⟨fun q hq => above_mem hq, sorted_above h⟩, fun p hp q hq => ?_⟩
  rcases List.mem_cons.1 hq with rfl | hq
  · exact below_mem hp
  · exact lt_trans (below_mem hp) (above_mem hq)
theorem sorted_del {l : List Pr} (k : ByteArray) (h : Sorted l) : Sorted (del l k) :=
  List.pairwise_append.2 ⟨sorted_below h, sorted_above h, fun p hp q hq => lt_trans (below_mem hp) (above_mem hq)⟩
theorem len_split {k : ByteArray} {l : List Pr} (h : Sorted l) : l.length = (below k l).length + ((at_ k l).length + (above k l).length) := by
  conv => lhs; rw [split (k := k) h]
  simp
theorem length_put {l : List Pr} (k v : ByteArray) (h : Sorted l) : (put l k v).length ≤ l.length + 1 := by
  have := len_split (k := k) h
  simp [put]
  omega
theorem length_del {l : List Pr} (k : ByteArray) (h : Sorted l) : (del l k).length ≤ l.length := by
  have := len_split (k := k) h
  simp [del]
  omega
/-- The place of a key. -/
def rank (k : ByteArray) (l : List Pr) : Nat := (below k l).length
theorem rank_le {k : ByteArray} {l : List Pr} (h : Sorted l) : rank k l ≤ l.length := by
  have := len_split (k := k) h
  unfold rank
  omega
theorem take_rank {k : ByteArray} {l : List Pr} (h : Sorted l) : l.take (rank k l) = below k l := by
  have e : l.take (rank k l) = (below k l ++ (at_ k l ++ above k l)).take (rank k l) := congrArg _ (split h)
  rw [e]
  exact List.take_left' rfl
theorem drop_rank {k : ByteArray} {l : List Pr} (h : Sorted l) : l.drop (rank k l) = at_ k l ++ above k l := by
  have e : l.drop (rank k l) = (below k l ++ (at_ k l ++ above k l)).drop (rank k l) := congrArg _ (split h)
  rw [e]
  exact List.drop_left' rfl
theorem rank_at {k v : ByteArray} {l : List Pr} (h : Sorted l) (ha : at_ k l = [(k, v)]) : rank k l < l.length ∧ l[rank k l]? = some (k, v) ∧ l.drop (rank k l + 1) = above k l := by
  have hl := len_split (k := k) h
  have hd := drop_rank (k := k) h
  rw [ha] at hl hd
  refine ⟨by unfold rank; simp at hl; omega, ?_, ?_⟩
  · have := congrArg (·[0]?) hd
    simpa using this
  · rw [← List.drop_drop, hd]
    rfl
theorem rank_none {k : ByteArray} {l : List Pr} (h : Sorted l) (ha : at_ k l = []) (hr : rank k l < l.length) : ∃ p, l[rank k l]? = some p ∧ lt k p.1 = true := by
  have hd := drop_rank (k := k) h
  rw [ha] at hd
  have h1 := congrArg (·[0]?) hd
  simp only [List.getElem?_drop, Nat.add_zero, List.nil_append] at h1
  refine ⟨l[rank k l], by simp [hr], ?_⟩
  rw [List.getElem?_eq_getElem hr] at h1
  exact above_mem (List.mem_of_getElem? h1.symm)
/-- What sort.Search is told rises. -/
theorem mono {k : ByteArray} {l : List Pr} (h : Sorted l) (a b : Nat) (x y : Pr) (hab : a ≤ b) (hx : l[a]? = some x) (hy : l[b]? = some y) (hp : (!lt x.1 k) = true) : (!lt y.1 k) = true := by
  rcases Nat.lt_or_eq_of_le hab with c | rfl
  · have hxy : lt x.1 y.1 = true := by
      obtain ⟨ha, rfl⟩ := List.getElem?_eq_some_iff.1 hx
      obtain ⟨hb, rfl⟩ := List.getElem?_eq_some_iff.1 hy
      exact List.pairwise_iff_getElem.1 h a b ha hb c
    cases hyk : lt y.1 k with
    | false => rfl
    | true =>
      rw [lt_trans hxy hyk] at hp
      cases hp
  · rw [hx] at hy
    cases hy
    exact hp
theorem count_range (k : ByteArray) (l : List Pr) : (List.range l.length).countP (fun i => !(!lt (l.getD i (⟨#[]⟩, ⟨#[]⟩)).1 k)) = rank k l := by
  have h : l = (List.range l.length).map fun i => l.getD i (⟨#[]⟩, ⟨#[]⟩) := by
    apply List.ext_getElem
    · simp
    · intro i h1 h2
      simp [h1]
  unfold rank below
  rw [← List.countP_eq_length_filter]
  conv => rhs; rw [h]
  rw [List.countP_map]
  congr 1
  funext i
  simp
end Go.Proofs.Ytdenkbdagbmddaa.Dc
