/- ref41.Right, plain: a thread's calls are counted, and each is before; the machine holds the last one's place. -/
import Derived.Test.YtdibkhddhgaghaaDoorHistLight
namespace Go.Proofs.YtdibkhddhgaghaaDoor.Hs
open Go.RowKit
set_option linter.unusedVariables false
set_option linter.unusedSimpArgs false
/-- How many of the first k calls are a thread's. -/
def cntT (l : List CV) : Nat → Int → Nat
  | 0, _ => 0
  | k + 1, t => cntT l k t + match l[k]? with | some q => if q.1.thread = t then 1 else 0 | none => 0
/-- All of the first k that are its thread's are before c. -/
def befAll (l : List CV) : Nat → CallL → Bool
  | 0, _ => true
  | k + 1, c => befAll l k c && match l[k]? with | some q => (if q.1.thread = c.thread then bef q.1 c else true) | none => true
theorem cntT_le (l : List CV) (t : Int) : ∀ k, cntT l k t ≤ k
  | 0 => Nat.le_refl _
  | k + 1 => by
    have := cntT_le l t k
    unfold cntT
    split
    · split <;> omega
    · omega
theorem cntT_at {l : List CV} {k : Nat} {q : CV} (h : l[k]? = some q) (t : Int) : cntT l (k + 1) t = cntT l k t + if q.1.thread = t then 1 else 0 := by
  show cntT l k t + _ = _
  rw [h]
theorem befAll_at {l : List CV} {k : Nat} {q : CV} (h : l[k]? = some q) (c : CallL) : befAll l (k + 1) c = (befAll l k c && if q.1.thread = c.thread then bef q.1 c else true) := by
  show (befAll l k c && _) = _
  rw [h]
theorem goesUp_step {l : List CV} {k : Nat} {q : CV} (hq : l[k]? = some q) (h : goesUp l (k + 1) = true) : goesUp l k = true ∧ goes l k q.1 = true := by
  unfold goesUp at h
  rw [hq] at h
  simpa using h
theorem befAll_bef {l : List CV} {c : CallL} : ∀ {k j : Nat} {p : CV}, befAll l k c = true → j < k → l[j]? = some p → p.1.thread = c.thread → bef p.1 c = true
  | 0, _, _, _, h, _, _ => absurd h (by omega)
  | k + 1, j, p, h, hj, hp, ht => by
    by_cases e : j = k
    · subst e
      rw [befAll_at hp, if_pos ht] at h
      simp only [Bool.and_eq_true] at h
      exact h.2
    · have h1 : befAll l k c = true := by
        unfold befAll at h
        simp only [Bool.and_eq_true] at h
        exact h.1
      exact befAll_bef h1 (by omega) hp ht
theorem befAll_of {l : List CV} {c : CallL} : ∀ {k : Nat}, (∀ j p, j < k → l[j]? = some p → p.1.thread = c.thread → bef p.1 c = true) → befAll l k c = true
  | 0, _ => rfl
  | k + 1, h => by
    have ih := befAll_of (l := l) (c := c) (k := k) fun j p hj => h j p (by omega)
    cases hq : l[k]? with
    | none => unfold befAll; rw [ih, hq]; rfl
    | some q =>
      rw [befAll_at hq, ih, Bool.true_and]
      by_cases ht : q.1.thread = c.thread
      · rw [if_pos ht]; exact h k q (by omega) hq ht
      · rw [if_neg ht]
theorem befAll_thread {l : List CV} {k : Nat} {a b : CallL} (h : befAll l k a = true) (ha : alone a = true) (hb : bef a b = true) (ht : a.thread = b.thread) : befAll l k b = true :=
  befAll_of fun j p hj hp he => bef_trans ha (befAll_bef h hj hp (he.trans ht.symm)) hb
/-- Where the calls so far are right: the last one's index tells the count; and who is behind the last one is behind all. -/
theorem upto {l : List CV} : ∀ {k : Nat}, k ≤ l.length → goesUp l k = true → ∀ t,
    (lastOf l k t = none → cntT l k t = 0 ∧ ∀ c : CallL, c.thread = t → befAll l k c = true) ∧
    (∀ j p, lastOf l k t = some j → l[j]? = some p → (cntT l k t : Int) = p.1.index + 1 ∧ ∀ c : CallL, c.thread = t → befAll l k c = bef p.1 c)
  | 0, _, _, t => ⟨fun _ => ⟨rfl, fun _ _ => rfl⟩, fun j p h => by simp [lastOf] at h⟩
  | k + 1, hk, h, t => by
    obtain ⟨q, hq⟩ : ∃ q, l[k]? = some q := ⟨_, List.getElem?_eq_getElem (by omega)⟩
    obtain ⟨h1, h2⟩ := goesUp_step hq h
    have ih := upto (k := k) (by omega) h1 t
    have hal := goes_alone h2
    by_cases e : q.1.thread = t
    · have hl : lastOf l (k + 1) t = some k := by unfold lastOf; rw [hq]; dsimp only; rw [if_pos e]
      refine ⟨fun hn => (by rw [hl] at hn; cases hn), fun j p hj hp => ?_⟩
      rw [hl] at hj
      injection hj with hj
      subst hj
      rw [hq] at hp
      injection hp with hp
      subst hp
      rw [cntT_at hq, if_pos e]
      have hprev : prevOk l k q.1.begin_ = true := by unfold goes at h2; simp only [Bool.and_eq_true] at h2; exact h2.1.2
      have key : (cntT l k t : Int) = q.1.index ∧ befAll l k q.1 = true := by
        cases hlo : lastOf l k t with
        | none =>
          obtain ⟨z1, z2⟩ := ih.1 hlo
          rw [goes_none hal (by rw [e]; exact hlo) hprev] at h2
          exact ⟨by rw [z1, of_decide_eq_true h2]; rfl, z2 q.1 e⟩
        | some j =>
          obtain ⟨_, p, hp, _⟩ := lastOf_lt hlo
          obtain ⟨z1, z2⟩ := ih.2 j p hlo hp
          rw [goes_some hal (by rw [e]; exact hlo) hp hprev] at h2
          simp only [Bool.and_eq_true, decide_eq_true_eq] at h2
          exact ⟨by rw [z1, h2.1], by rw [z2 q.1 e]; exact h2.2⟩
      refine ⟨by have := key.1; omega, fun c hc => ?_⟩
      rw [befAll_at hq, if_pos (by rw [e, hc])]
      cases hb : bef q.1 c with
      | false => rw [Bool.and_false]
      | true => rw [befAll_thread key.2 hal hb (by rw [e, hc])]; rfl
    · have hl : lastOf l (k + 1) t = lastOf l k t := by
        show (match l[k]? with | some q => if q.1.thread = t then some k else lastOf l k t | none => lastOf l k t) = _
        rw [hq]
        exact if_neg e
      rw [hl, cntT_at hq, if_neg e]
      refine ⟨fun hn => ⟨(ih.1 hn).1, fun c hc => ?_⟩, fun j p hj hp => ⟨(ih.2 j p hj hp).1, fun c hc => ?_⟩⟩
      · rw [befAll_at hq, if_neg (by rw [hc]; exact e), (ih.1 hn).2 c hc]; rfl
      · rw [befAll_at hq, if_neg (by rw [hc]; exact e), (ih.2 j p hj hp).2 c hc, Bool.and_true]
/-- The reference's test of a call at its place. -/
def goesR (l : List CV) (i : Nat) (c : CallL) : Bool := alone c && prevOk l i c.begin_ && befAll l i c && decide (c.index = cntT l i c.thread)
theorem goesR_eq {l : List CV} {k : Nat} {c : CallL} (hk : k ≤ l.length) (h : goesUp l k = true) : goesR l k c = goes l k c := by
  unfold goesR
  cases ha : alone c with
  | false => unfold goes; rw [ha]; rfl
  | true =>
    cases hp : prevOk l k c.begin_ with
    | false => unfold goes; rw [ha, hp]; rfl
    | true =>
      have ih := upto hk h c.thread
      cases hlo : lastOf l k c.thread with
      | none =>
        obtain ⟨z1, z2⟩ := ih.1 hlo
        rw [goes_none ha hlo hp, z2 c rfl, z1]
        rfl
      | some j =>
        obtain ⟨_, p, hpj, _⟩ := lastOf_lt hlo
        obtain ⟨z1, z2⟩ := ih.2 j p hlo hpj
        rw [goes_some ha hlo hpj hp, z2 c rfl, z1]
        simp only [Bool.true_and]
        rw [Bool.and_comm]
end Go.Proofs.YtdibkhddhgaghaaDoor.Hs
