/- dict: a map as the laws use it; 'awake'. -/
import Derived.Outline
import Derived.Test.YtaodaonbkfgoeaaDictRef
namespace Go.Proofs.Ytaodaonbkfgoeaa.DcL
open Go.RowKit Go.Shelf Dc DcM DcW DcI DcR
set_option linter.unusedVariables false

/-- What lay below n0, and what is of no map, lies on. -/
structure Kept (n0 : Nat) (w w' : World) : Prop where
  below : Below n0 w w'
  other : ∀ (b : Nat) (cs : Array Value) (T : TypeId) (f : Nat × Nat), w.heap[b]? = some (.cells cs T f) → T ≠ 9 → T ≠ 58 → w'.heap[b]? = w.heap[b]?
theorem Kept.refl (n0 : Nat) (w : World) : Kept n0 w w := ⟨Below.refl _ _, fun _ _ _ _ _ _ _ => rfl⟩
theorem Kept.trans {n0 : Nat} {a b c : World} (h : Kept n0 a b) (k : Kept n0 b c) : Kept n0 a c :=
  ⟨h.below.trans k.below, fun x cs T f hx h1 h2 => by
    have e := h.other x cs T f hx h1 h2
    exact (k.other x cs T f (e.trans hx) h1 h2).trans e⟩
theorem Kept.of_below {n0 : Nat} {w w' : World} (h : Below w.heap.size w w') (hn : n0 ≤ w.heap.size) : Kept n0 w w' :=
  ⟨h.mono hn, fun b cs T f hb _ _ => h.block b (Array.getElem?_eq_some_iff.1 hb).1⟩
theorem Kept.owns {n0 : Nat} {w w' : World} (h : Kept n0 w w') {base : Nat} {e : TypeId} {size n : Nat} {v : Value} {xs : List Value} (hr : w.ownsRow base e size v n xs) (h1 : e ≠ 9) (h2 : e ≠ 58) : w'.ownsRow base e size v n xs := by
  obtain ⟨hl, ⟨rfl, hz⟩ | ⟨b, cap, cur, rfl, g1, g2, g3⟩⟩ := hr
  · exact ⟨hl, Or.inl ⟨rfl, hz⟩⟩
  · exact ⟨hl, Or.inr ⟨b, cap, cur, rfl, g1, (h.other b _ _ _ g2 h1 h2).trans g2, g3⟩⟩
theorem Kept.size {n0 : Nat} {w w' : World} (h : Kept n0 w w') : w.heap.size ≤ w'.heap.size := h.below.size

/-- A map lies at block g of w. -/
def MapAt (n0 : Nat) (w : World) (g : Nat) (l : List Pr) : Prop := ∃ kb vb, IsD w n0 g kb vb l ∧ Sorted l ∧ n0 ≤ w.heap.size
theorem keeps_kept {n0 g : Nat} {w w' : World} {kb vb : Option Nat} {l : List Pr} (h : Keeps w w' (Foot g kb vb)) (hD : IsD w n0 g kb vb l) (hn : n0 ≤ w.heap.size) : Kept n0 w w' := by
  refine ⟨h.below hn fun k hk => ?_, fun b cs T f hb h1 h2 => h.block b (Array.getElem?_eq_some_iff.1 hb).1 fun hf => ?_⟩
  · rcases hk with rfl | e | e
    · exact hD.choose_spec.choose_spec.2.1
    · exact (hD.kb_lt.1 k e.symm).1
    · exact (hD.kb_lt.2 k e.symm).1
  · obtain ⟨ks, vs, hh, _, hk, hv, e1, e2, _⟩ := hD
    have row : ∀ (v : Value) (xs : List ByteArray), Row w n0 v xs → v.ownBlock ≠ some b := fun v xs hr => Row.ne_of_type hr hb h1
    rcases hf with rfl | e | e
    · rw [hb] at hh
      injection hh with hh
      injection hh with _ ht
      exact h2 ht
    · exact row ks _ hk (e1.trans e.symm)
    · exact row vs _ hv (e2.trans e.symm)
theorem MapAt.below {n0 g : Nat} {w w' : World} {l : List Pr} (h : MapAt n0 w g l) (hb : Below w.heap.size w w') : MapAt n0 w' g l := by
  obtain ⟨kb, vb, hD, hs, hn⟩ := h
  exact ⟨kb, vb, hD.below hb, hs, Nat.le_trans hn hb.size⟩
theorem new_m (n0 : Nat) (w : World) (hn : n0 ≤ w.heap.size) :
    Calls Try.prog 18 #[] w fun e w' => e = .returned (.pointer (some ⟨w.heap.size, 0, none⟩)) ∧ MapAt n0 w' w.heap.size [] ∧ Kept n0 w w' :=
  (new_any w n0 hn).mono fun e w' ⟨he, hD, hb⟩ => ⟨he, ⟨none, none, hD, List.Pairwise.nil, Nat.le_trans hn hb.size⟩, Kept.of_below hb hn⟩
theorem put_m {n0 g : Nat} {w : World} {l : List Pr} (h : MapAt n0 w g l) (hl : l.length < 1000000) (key v : ByteArray) :
    Calls Try.prog 20 #[.pointer (some ⟨g, 0, none⟩), .string key, .string v] w fun e w' => e = .returned (.tuple #[.string (dget l key).1, .bool (dget l key).2]) ∧ MapAt n0 w' g (put l key v) ∧ Kept n0 w w' := by
  obtain ⟨kb, vb, hD, hs, hn⟩ := h
  exact (put_any w n0 g kb vb l key v hD hs hl hn).mono fun e w' ⟨he, kb', vb', hD', hk, _, _⟩ => ⟨he, ⟨kb', vb', hD', sorted_put _ _ hs, Nat.le_trans hn hk.size⟩, keeps_kept hk hD hn⟩
theorem del_m {n0 g : Nat} {w : World} {l : List Pr} (h : MapAt n0 w g l) (hl : l.length < 1000000) (key : ByteArray) :
    Calls Try.prog 22 #[.pointer (some ⟨g, 0, none⟩), .string key] w fun e w' => e = .returned (.tuple #[.string (dget l key).1, .bool (dget l key).2]) ∧ MapAt n0 w' g (del l key) ∧ Kept n0 w w' := by
  obtain ⟨kb, vb, hD, hs, hn⟩ := h
  exact (del_any' w n0 g kb vb l key hD hs hl hn).mono fun e w' ⟨he, hD', hk⟩ => ⟨he, ⟨kb, vb, hD', sorted_del _ hs, Nat.le_trans hn hk.size⟩, keeps_kept hk hD hn⟩
theorem get_m {n0 g : Nat} {w : World} {l : List Pr} (h : MapAt n0 w g l) (hl : l.length < 1000000) (key : ByteArray) :
    Calls Try.prog 24 #[.pointer (some ⟨g, 0, none⟩), .string key] w fun e w' => e = .returned (.tuple #[.string (dget l key).1, .bool (dget l key).2]) ∧ MapAt n0 w' g l ∧ Kept n0 w w' := by
  obtain ⟨kb, vb, hD, hs, hn⟩ := id h
  exact (get_any w n0 g kb vb l key hD hs hl).mono fun e w' ⟨he, hb⟩ => ⟨he, h.below hb, Kept.of_below hb hn⟩
theorem len_m {n0 g : Nat} {w : World} {l : List Pr} (h : MapAt n0 w g l) :
    Calls Try.prog 25 #[.pointer (some ⟨g, 0, none⟩)] w fun e w' => e = .returned (.int .i64 (l.length : Nat)) ∧ w' = w := by
  obtain ⟨kb, vb, hD, hs, hn⟩ := id h
  exact len_any w n0 g kb vb l hD
theorem all_m {n0 g : Nat} {w : World} {l : List Pr} (h : MapAt n0 w g l) (hl : l.length < 1000000) (most : Nat) :
    Calls Try.prog 27 #[.pointer (some ⟨g, 0, none⟩), .int .i64 most] w fun e w' => ∃ v, e = .returned v ∧ w'.ownsRow n0 50 2 v (l.take most).length (cellsP (l.take most)) ∧ MapAt n0 w' g l ∧ Kept n0 w w' := by
  obtain ⟨kb, vb, hD, hs, hn⟩ := id h
  exact (lawall_any w n0 g kb vb l most hD hl).mono fun e w' ⟨v, he, hr, hb⟩ => ⟨v, he, row_base hr hn, h.below hb, Kept.of_below hb hn⟩

/-! ### awake -/
theorem lt_ab : lt ⟨#[97]⟩ ⟨#[98]⟩ = true := by
  unfold lt; rw [Lib.toList_data, Lib.toList_data]; rfl
theorem put1 (k v : ByteArray) : put [] k v = [(k, v)] := rfl
theorem put2 (v u : ByteArray) : put [(⟨#[98]⟩, v)] ⟨#[97]⟩ u = [(⟨#[97]⟩, u), (⟨#[98]⟩, v)] := by
  simp [put, Dc.below, above, lt_ab, lt_asymm lt_ab]
theorem put3 (v u x : ByteArray) : put [(⟨#[97]⟩, u), (⟨#[98]⟩, v)] ⟨#[98]⟩ x = [(⟨#[97]⟩, u), (⟨#[98]⟩, x)] := by
  simp [put, Dc.below, above, lt_ab, lt_asymm lt_ab, lt_irrefl]
theorem get1 (k : ByteArray) : dget [] k = (⟨#[]⟩, false) := rfl
theorem get2 (v : ByteArray) : dget [(⟨#[98]⟩, v)] ⟨#[97]⟩ = (⟨#[]⟩, false) := by
  have : (⟨#[98]⟩ : ByteArray) ≠ ⟨#[97]⟩ := (lt_ne lt_ab).symm
  simp [dget, at_, this]
theorem get3 (v u : ByteArray) : dget [(⟨#[97]⟩, u), (⟨#[98]⟩, v)] ⟨#[98]⟩ = (v, true) := by
  have : (⟨#[97]⟩ : ByteArray) ≠ ⟨#[98]⟩ := lt_ne lt_ab
  simp [dget, at_, this]
set_option maxRecDepth 100000 in
set_option maxHeartbeats 8000000 in
theorem awake_any (w : World) : Calls Try.prog 17 #[] w fun e w' => e = .returned (.bool true) ∧ Below w.heap.size w w' := by
  go_enter Try.func17, Try.ntmps17
  go_wp2_with fail
  refine (new_m w.heap.size w (Nat.le_refl _)).mono ?_
  rintro e w1 ⟨rfl, hm1, hk1⟩
  dsimp only
  have K1 := Lib.hid hk1
  clear hk1
  go_wp2_with fail
  refine (put_m hm1 (by simp) _ _).mono ?_
  rw [get1, put1]
  rintro e w2 ⟨rfl, hm2, hk2⟩
  dsimp only
  have K2 := Lib.hid (K1.out.trans hk2)
  clear hk2 hm1
  go_wp2_with fail
  refine (put_m hm2 (by simp) _ _).mono ?_
  rw [get2, put2]
  rintro e w3 ⟨rfl, hm3, hk3⟩
  dsimp only
  have K3 := Lib.hid (K2.out.trans hk3)
  clear hk3 hm2
  go_wp2_with fail
  refine (put_m hm3 (by simp) _ _).mono ?_
  rw [get3, put3]
  rintro e w4 ⟨rfl, hm4, hk4⟩
  dsimp only
  have K4 := Lib.hid (K3.out.trans hk4)
  clear hk4 hm3
  go_wp2_with fail
  refine (len_m hm4).mono ?_
  rintro e w5 ⟨rfl, rfl⟩
  go_wp2_with fail
  refine (all_m hm4 (by simp) 9).mono ?_
  rintro e w6 ⟨v, rfl, hr, hm6, hk6⟩
  have K6 := Lib.hid (K4.out.trans hk6)
  have hr2 := hr.alloc (.cells #[.string ⟨#[97]⟩, .string ⟨#[50]⟩, .string ⟨#[98]⟩, .string ⟨#[51]⟩] 50)
  have hq := World.ownsRow_lit (base := w.heap.size) (e := 50) (size := 2) w6 #[.string ⟨#[97]⟩, .string ⟨#[50]⟩, .string ⟨#[98]⟩, .string ⟨#[51]⟩] 2 K6.out.size (by decide) rfl
  have P1 := Lib.hid (Prs.of_owns (l := [(⟨#[97]⟩, ⟨#[50]⟩), (⟨#[98]⟩, ⟨#[51]⟩)]) hr2)
  have P2 := Lib.hid (Prs.of_owns (l := [(⟨#[97]⟩, ⟨#[50]⟩), (⟨#[98]⟩, ⟨#[51]⟩)]) hq)
  clear hk6 hm4 hr hr2 hq hm6
  go_wp2_with fail
  refine (same_ref _ _ _ _ _ P1.out P2.out (by simp)).mono ?_
  rintro e w7 ⟨rfl, n, rfl⟩
  simp only [decide_true]
  go_wp2_with fail
  go_ret
  exact ⟨rfl, dn ((K6.out.below).alloc K6.out.size _) n⟩
end Go.Proofs.Ytaodaonbkfgoeaa.DcL
