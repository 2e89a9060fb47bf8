/- dict: two maps side by side. -/
import Derived.Outline
import Derived.Test.YtdenkbdagbmddaaDictKept
namespace Go.Proofs.Ytdenkbdagbmddaa.DcL
open Go.RowKit Go.Shelf Dc DcM DcW DcI DcR
set_option linter.unusedVariables false
/-- Two maps lie in w, of no block in common. -/
def MM (n0 : Nat) (w : World) (g1 : Nat) (l1 : List Pr) (g2 : Nat) (l2 : List Pr) : Prop := ∃ k1 v1 k2 v2, IsD w n0 g1 k1 v1 l1 ∧ IsD w n0 g2 k2 v2 l2 ∧ (∀ k, Foot g1 k1 v1 k → ¬ Foot g2 k2 v2 k) ∧ Sorted l1 ∧ Sorted l2 ∧ n0 ≤ w.heap.size
variable {n0 g1 g2 : Nat} {w w' : World} {l1 l2 : List Pr}
theorem MM.fst (h : MM n0 w g1 l1 g2 l2) : MapAt n0 w g1 l1 := by
  obtain ⟨k1, v1, k2, v2, h1, h2, h3, h4, h5, h6⟩ := h
  exact ⟨k1, v1, h1, h4, h6⟩
theorem MM.swap (h : MM n0 w g1 l1 g2 l2) : MM n0 w g2 l2 g1 l1 := by
  obtain ⟨k1, v1, k2, v2, h1, h2, h3, h4, h5, h6⟩ := h
  exact ⟨k2, v2, k1, v1, h2, h1, fun k h h' => h3 k h' h, h5, h4, h6⟩
theorem MM.below (h : MM n0 w g1 l1 g2 l2) (hb : Below w.heap.size w w') : MM n0 w' g1 l1 g2 l2 := by
  obtain ⟨k1, v1, k2, v2, h1, h2, h3, h4, h5, h6⟩ := h
  exact ⟨k1, v1, k2, v2, h1.below hb, h2.below hb, h3, h4, h5, Nat.le_trans h6 hb.size⟩
theorem foot_lt {n0 g : Nat} {kb vb : Option Nat} {l : List Pr} (h : IsD w n0 g kb vb l) {k : Nat} (hk : Foot g kb vb k) : k < w.heap.size := by
  rcases hk with rfl | e | e
  · exact h.lt_size
  · exact (h.kb_lt.1 k e.symm).2.1
  · exact (h.kb_lt.2 k e.symm).2.1
theorem new_mm (h : MapAt n0 w g1 l1) : Calls Try.prog 5 #[] w fun e w' => e = .returned (.pointer (some ⟨w.heap.size, 0, none⟩)) ∧ MM n0 w' g1 l1 w.heap.size [] ∧ Kept n0 w w' := by
  obtain ⟨kb, vb, hD, hs, hn⟩ := h
  refine (new_any w n0 hn).mono fun e w' ⟨he, hD', hb⟩ => ⟨he, ⟨kb, vb, none, none, hD.below hb, hD', fun k hk hk' => ?_, hs, List.Pairwise.nil, Nat.le_trans hn hb.size⟩, Kept.of_below hb hn⟩
  have := foot_lt hD hk
  rcases hk' with e | e | e
  · omega
  · cases e
  · cases e
theorem put_mm (h : MM n0 w g1 l1 g2 l2) (hl : l1.length < 1000000) (key v : ByteArray) :
    Calls Try.prog 6 #[.pointer (some ⟨g1, 0, none⟩), .string key, .string v] w fun e w' => e = .returned (.tuple #[.string (dget l1 key).1, .bool (dget l1 key).2]) ∧ MM n0 w' g1 (put l1 key v) g2 l2 ∧ Kept n0 w w' := by
  obtain ⟨k1, v1, k2, v2, h1, h2, h3, h4, h5, h6⟩ := h
  refine (put_any w n0 g1 k1 v1 l1 key v h1 h4 hl h6).mono fun e w' ⟨he, kb', vb', hD', hk, f1, f2⟩ => ⟨he, ⟨kb', vb', k2, v2, hD', ?_, ?_, sorted_put _ _ h4, h5, Nat.le_trans h6 hk.size⟩, keeps_kept hk h1 h6⟩
  · have same : ∀ k, Foot g2 k2 v2 k → w'.heap[k]? = w.heap[k]? := fun k hf => hk.block k (foot_lt h2 hf) (fun e => h3 k e hf)
    exact h2.kept (same g2 (Or.inl rfl)) (fun k e => same k (Or.inr (Or.inl e.symm))) (fun k e => same k (Or.inr (Or.inr e.symm)))
  · intro k hf hf'
    have hlt := foot_lt h2 hf'
    rcases hf with e | e | e
    · exact h3 k (Or.inl e) hf'
    · rcases f1 with f | ⟨j, f, hj⟩
      · exact h3 k (Or.inr (Or.inl (e.trans f))) hf'
      · rw [f] at e
        cases e
        omega
    · rcases f2 with f | ⟨j, f, hj⟩
      · exact h3 k (Or.inr (Or.inr (e.trans f))) hf'
      · rw [f] at e
        cases e
        omega
end Go.Proofs.Ytdenkbdagbmddaa.DcL
