/- dict: a map as its users hold it. -/
import Derived.Test.YtdenkbdagbmddaaDictRef
namespace Go.Proofs.Ytdenkbdagbmddaa.DcL
open Go.RowKit Go.Shelf Dc DcM DcW DcI DcR
set_option linter.unusedVariables false

/-- What lay below n0, and what is of no map, lies on. -/
structure Kept (n0 : Nat) (w w' : World) : Prop where
  below : Below n0 w w'
  other : ∀ (b : Nat) (cs : Array Value) (T : TypeId) (f : Nat × Nat), w.heap[b]? = some (.cells cs T f) → T ≠ 9 → T ≠ 39 → w'.heap[b]? = w.heap[b]?
theorem Kept.refl (n0 : Nat) (w : World) : Kept n0 w w := ⟨Below.refl _ _, fun _ _ _ _ _ _ _ => rfl⟩
theorem Kept.trans {n0 : Nat} {a b c : World} (h : Kept n0 a b) (k : Kept n0 b c) : Kept n0 a c :=
  ⟨h.below.trans k.below, fun x cs T f hx h1 h2 => by
    have e := h.other x cs T f hx h1 h2
    exact (k.other x cs T f (e.trans hx) h1 h2).trans e⟩
theorem Kept.of_below {n0 : Nat} {w w' : World} (h : Below w.heap.size w w') (hn : n0 ≤ w.heap.size) : Kept n0 w w' :=
  ⟨h.mono hn, fun b cs T f hb _ _ => h.block b (Array.getElem?_eq_some_iff.1 hb).1⟩
theorem Kept.owns {n0 : Nat} {w w' : World} (h : Kept n0 w w') {base : Nat} {e : TypeId} {size n : Nat} {v : Value} {xs : List Value} (hr : w.ownsRow base e size v n xs) (h1 : e ≠ 9) (h2 : e ≠ 39) : w'.ownsRow base e size v n xs := by
  obtain ⟨hl, ⟨rfl, hz⟩ | ⟨b, cap, cur, rfl, g1, g2, g3⟩⟩ := hr
  · exact ⟨hl, Or.inl ⟨rfl, hz⟩⟩
  · exact ⟨hl, Or.inr ⟨b, cap, cur, rfl, g1, (h.other b _ _ _ g2 h1 h2).trans g2, g3⟩⟩
theorem Kept.size {n0 : Nat} {w w' : World} (h : Kept n0 w w') : w.heap.size ≤ w'.heap.size := h.below.size

/-- A map lies at block g of w. -/
def MapAt (n0 : Nat) (w : World) (g : Nat) (l : List Pr) : Prop := ∃ kb vb, IsD w n0 g kb vb l ∧ Sorted l ∧ n0 ≤ w.heap.size
theorem keeps_kept {n0 g : Nat} {w w' : World} {kb vb : Option Nat} {l : List Pr} (h : Keeps w w' (Foot g kb vb)) (hD : IsD w n0 g kb vb l) (hn : n0 ≤ w.heap.size) : Kept n0 w w' := by
  refine ⟨h.below hn fun k hk => ?_, fun b cs T f hb h1 h2 => h.block b (Array.getElem?_eq_some_iff.1 hb).1 fun hf => ?_⟩
  · rcases hk with rfl | e | e
    · exact hD.choose_spec.choose_spec.2.1
    · exact (hD.kb_lt.1 k e.symm).1
    · exact (hD.kb_lt.2 k e.symm).1
  · obtain ⟨ks, vs, hh, _, hk, hv, e1, e2, _⟩ := hD
    have row : ∀ (v : Value) (xs : List ByteArray), Row w n0 v xs → v.ownBlock ≠ some b := fun v xs hr => Row.ne_of_type hr hb h1
    rcases hf with rfl | e | e
    · rw [hb] at hh
      injection hh with hh
      injection hh with _ ht
      exact h2 ht
    · exact row ks _ hk (e1.trans e.symm)
    · exact row vs _ hv (e2.trans e.symm)
theorem MapAt.below {n0 g : Nat} {w w' : World} {l : List Pr} (h : MapAt n0 w g l) (hb : Below w.heap.size w w') : MapAt n0 w' g l := by
  obtain ⟨kb, vb, hD, hs, hn⟩ := h
  exact ⟨kb, vb, hD.below hb, hs, Nat.le_trans hn hb.size⟩
theorem new_m (n0 : Nat) (w : World) (hn : n0 ≤ w.heap.size) :
    Calls Try.prog 5 #[] w fun e w' => e = .returned (.pointer (some ⟨w.heap.size, 0, none⟩)) ∧ MapAt n0 w' w.heap.size [] ∧ Kept n0 w w' :=
  (new_any w n0 hn).mono fun e w' ⟨he, hD, hb⟩ => ⟨he, ⟨none, none, hD, List.Pairwise.nil, Nat.le_trans hn hb.size⟩, Kept.of_below hb hn⟩
theorem put_m {n0 g : Nat} {w : World} {l : List Pr} (h : MapAt n0 w g l) (hl : l.length < 1000000) (key v : ByteArray) :
    Calls Try.prog 6 #[.pointer (some ⟨g, 0, none⟩), .string key, .string v] w fun e w' => e = .returned (.tuple #[.string (dget l key).1, .bool (dget l key).2]) ∧ MapAt n0 w' g (put l key v) ∧ Kept n0 w w' := by
  obtain ⟨kb, vb, hD, hs, hn⟩ := h
  exact (put_any w n0 g kb vb l key v hD hs hl hn).mono fun e w' ⟨he, kb', vb', hD', hk, _, _⟩ => ⟨he, ⟨kb', vb', hD', sorted_put _ _ hs, Nat.le_trans hn hk.size⟩, keeps_kept hk hD hn⟩
theorem del_m {n0 g : Nat} {w : World} {l : List Pr} (h : MapAt n0 w g l) (hl : l.length < 1000000) (key : ByteArray) :
    Calls Try.prog 14 #[.pointer (some ⟨g, 0, none⟩), .string key] w fun e w' => e = .returned (.tuple #[.string (dget l key).1, .bool (dget l key).2]) ∧ MapAt n0 w' g (del l key) ∧ Kept n0 w w' := by
  obtain ⟨kb, vb, hD, hs, hn⟩ := h
  exact (del_any' w n0 g kb vb l key hD hs hl hn).mono fun e w' ⟨he, hD', hk⟩ => ⟨he, ⟨kb, vb, hD', sorted_del _ hs, Nat.le_trans hn hk.size⟩, keeps_kept hk hD hn⟩
theorem get_m {n0 g : Nat} {w : World} {l : List Pr} (h : MapAt n0 w g l) (hl : l.length < 1000000) (key : ByteArray) :
    Calls Try.prog 11 #[.pointer (some ⟨g, 0, none⟩), .string key] w fun e w' => e = .returned (.tuple #[.string (dget l key).1, .bool (dget l key).2]) ∧ MapAt n0 w' g l ∧ Kept n0 w w' := by
  obtain ⟨kb, vb, hD, hs, hn⟩ := id h
  exact (get_any w n0 g kb vb l key hD hs hl).mono fun e w' ⟨he, hb⟩ => ⟨he, h.below hb, Kept.of_below hb hn⟩
theorem len_m {n0 g : Nat} {w : World} {l : List Pr} (h : MapAt n0 w g l) :
    Calls Try.prog 10 #[.pointer (some ⟨g, 0, none⟩)] w fun e w' => e = .returned (.int .i64 (l.length : Nat)) ∧ w' = w := by
  obtain ⟨kb, vb, hD, hs, hn⟩ := id h
  exact len_any w n0 g kb vb l hD
end Go.Proofs.Ytdenkbdagbmddaa.DcL
