/- order: awake. -/
import Derived.Test.YtdhgacionopghaaOrdTours
import Derived.Test.YtdhgacionopghaaOrdMap
namespace Go.Proofs.Ytdhgacionopghaa.Od
open Go.RowKit Go.Shelf Dc DcM DcW DcI DcR DcL Sp
set_option linter.unusedVariables false
set_option linter.unusedSimpArgs false
def cellsC (l : List CV) : List Value := l.flatMap fun q => (callC q.1 q.2).toList
theorem cellsC_cons (q : CV) (l : List CV) : cellsC (q :: l) = (callC q.1 q.2).toList ++ cellsC l := rfl
theorem callC_len (c : CallL) (p : Value) : (callC c p).toList.length = 15 := rfl
theorem cellsC_get : ∀ (l : List CV) (j : Nat) (q : CV) (k : Nat) (u : Value), l[j]? = some q → (callC q.1 q.2)[k]? = some u → (cellsC l)[j * 15 + k]? = some u
  | [], j, q, k, u, h, _ => by simp at h
  | p :: l, 0, q, k, u, h, hk => by
    simp at h
    subst h
    have hk6 : k < 15 := (Array.getElem?_eq_some_iff.1 hk).1
    rw [cellsC_cons, List.getElem?_append_left (by rw [callC_len]; omega), Nat.zero_mul, Nat.zero_add]
    rwa [← Array.getElem?_toList] at hk
  | p :: l, j + 1, q, k, u, h, hk => by
    have := cellsC_get l j q k u (by simpa using h) hk
    rw [cellsC_cons, List.getElem?_append_right (by rw [callC_len]; omega), callC_len, show (j + 1) * 15 + k - 15 = j * 15 + k by omega]
    exact this
theorem cls_of_block {w : World} {b : Nat} {T : TypeId} {l : List CV} (h : w.heap[b]? = some (.cells (cellsC l).toArray T (0, 0))) (hp : ∀ (j : Nat) (q : CV), l[j]? = some q → Prs w q.2 q.1.reply.pairs ∧ q.1.reply.pairs.length ≤ maxLen ∧ q.1.op.key.size ≤ maxLen ∧ q.1.op.value.size ≤ maxLen ∧ q.1.op.old.size ≤ maxLen) (cap : Nat) : Cls w (.slice (some ⟨b, 0, none⟩) l.length cap) l := by
  refine ⟨_, cap, rfl, fun j q hq => ?_⟩
  obtain ⟨h1, h2, h3, h4, h5⟩ := hp j q hq
  refine ⟨h1, h2, h3, h4, h5, b, 0, rfl, (Array.getElem?_eq_some_iff.1 h).1, fun k u hk => ?_⟩
  rw [cell_of h, Nat.zero_add, List.getElem?_toArray]
  exact cellsC_get l j q k u hq hk
theorem its_of_block {w : World} {b : Nat} {T : TypeId} {l : List Int} (h : w.heap[b]? = some (.cells (l.map (Value.int .i64)).toArray T (0, 0))) : Its w (.slice (some ⟨b, 0, none⟩) l.length l.length) l := by
  refine ⟨_, _, rfl, Nat.le_refl _, fun j x hx => ⟨b, 0, rfl, (Array.getElem?_eq_some_iff.1 h).1, ?_⟩⟩
  rw [cell_of h, Nat.zero_add, List.getElem?_toArray, List.getElem?_map, hx]; rfl
abbrev LW : List CV := [(⟨0, 0, ⟨2, ⟨#[107]⟩, ⟨#[118]⟩, ⟨#[]⟩⟩, 0, 3, true, ⟨0, false, true, ⟨#[]⟩, 0, []⟩⟩, .slice none 0 0), (⟨1, 0, ⟨1, ⟨#[107]⟩, ⟨#[]⟩, ⟨#[]⟩⟩, 4, 6, true, ⟨0, true, false, ⟨#[118]⟩, 0, []⟩⟩, .slice none 0 0), (⟨2, 0, ⟨10, ⟨#[]⟩, ⟨#[]⟩, ⟨#[]⟩⟩, 5, 9, true, ⟨0, false, false, ⟨#[]⟩, 0, []⟩⟩, .slice none 0 0)]
theorem c01 : checkM LW [0, 1] = (0, 0) := by decide +kernel
theorem c10 : checkM LW [1, 0] = (0, 8) := by decide +kernel
theorem c0 : checkM LW [0] = (0, 2) := by decide +kernel
theorem t01 : toursM LW [0, 1] = (2, false) := by decide +kernel
theorem s01 : spanF LW [0, 1] 2 = 1 ∧ spanT LW [0, 1] 2 = 2 := by decide +kernel
theorem m0 : (behindM LW [0]).length = 1 := by decide +kernel
theorem len3 : LW.length < 1000000 := by simp
theorem hlp3 : ∀ (j : Nat) (q : CV), LW[j]? = some q → q.1.reply.pairs.length < 100000 := by
  intro j q hq
  match j with
  | 0 => simp at hq; subst hq; decide
  | 1 => simp at hq; subst hq; decide
  | 2 => simp at hq; subst hq; decide
  | j + 3 => simp at hq
set_option maxRecDepth 100000 in
set_option maxHeartbeats 16000000 in
theorem awake_o (w : World) : Calls Try.prog 25 #[] w fun e w' => e = .returned (.bool true) ∧ Below w.heap.size w w' := by
  obtain ⟨W0, hW0⟩ : ∃ W, W = w.alloc (.cells (cellsC LW).toArray 59) := ⟨_, rfl⟩
  have hb0 : Below w.heap.size w W0 := by rw [hW0]; exact (Below.refl _ _).alloc (Nat.le_refl _) _
  have PL := Lib.hid (show Cls W0 (.slice (some ⟨w.heap.size, 0, none⟩) 3 3) LW from cls_of_block (l := LW) (T := 59) (by rw [hW0]; exact heap_alloc_new w _) (fun j q hq => by
    match j with
    | 0 => simp at hq; subst hq; exact ⟨prs_nil _, by decide, by decide, by decide, by decide⟩
    | 1 => simp at hq; subst hq; exact ⟨prs_nil _, by decide, by decide, by decide, by decide⟩
    | 2 => simp at hq; subst hq; exact ⟨prs_nil _, by decide, by decide, by decide, by decide⟩
    | j + 3 => simp at hq) 3)
  have PB := Lib.hid hb0
  simp only [cellsC, callC, List.flatMap_cons, List.flatMap_nil, List.append_nil, List.cons_append, List.nil_append] at hW0
  have HW0 := Lib.hid hW0
  have HS0 := Lib.hid (show W0.heap.size = w.heap.size + 1 by rw [hW0]; simp)
  clear hW0 hb0
  go_enter Try.func25, Try.ntmps25
  go_wp2_with fail
  rw [← HW0.out]
  obtain ⟨W1, hW1⟩ : ∃ W, W = World.alloc W0 (.cells #[.int .i64 0, .int .i64 1] 3) := ⟨_, rfl⟩
  have hb1 : Below W0.heap.size W0 W1 := by rw [hW1]; exact (Below.refl _ _).alloc (Nat.le_refl _) _
  have I1 := Lib.hid (show Its W1 (.slice (some ⟨W0.heap.size, 0, none⟩) 2 2) [0, 1] from its_of_block (l := [0, 1]) (by rw [hW1]; exact heap_alloc_new W0 _))
  rw [HS0.out] at I1
  have B1 := Lib.hid (PB.out.trans (hb1.mono PB.out.size))
  have L1 := Lib.hid (PL.out.below hb1)
  have HW1 := Lib.hid hW1
  have C1 := check_any W1 _ _ LW [0, 1] L1.out I1.out len3 (show ([0, 1] : List Int).length < 10000 by simp) hlp3
  rw [c01] at C1
  have H1 := Lib.hid C1
  clear hW1 hb1 PB PL C1
  go_wp2_with fail
  rw [← HW1.out]
  with_reducible refine H1.out.mono ?_
  rintro e v1 ⟨rfl, hv1⟩
  have PB := Lib.hid (B1.out.trans (hv1.mono B1.out.size))
  have PL := Lib.hid (L1.out.below hv1)
  clear hv1 B1 L1 I1 HW1
  obtain ⟨W2, hW2⟩ : ∃ W, W = World.alloc v1 (.cells #[.int .i64 1, .int .i64 0] 3) := ⟨_, rfl⟩
  have hb2 : Below v1.heap.size v1 W2 := by rw [hW2]; exact (Below.refl _ _).alloc (Nat.le_refl _) _
  have I2 := Lib.hid (show Its W2 (.slice (some ⟨v1.heap.size, 0, none⟩) 2 2) [1, 0] from its_of_block (l := [1, 0]) (by rw [hW2]; exact heap_alloc_new v1 _))
  have B2 := Lib.hid (PB.out.trans (hb2.mono PB.out.size))
  have L2 := Lib.hid (PL.out.below hb2)
  have HW2 := Lib.hid hW2
  have C2 := check_any W2 _ _ LW [1, 0] L2.out I2.out len3 (show ([1, 0] : List Int).length < 10000 by simp) hlp3
  rw [c10] at C2
  have H2 := Lib.hid C2
  clear hW2 hb2 PB PL C2
  go_wp2_with fail
  rw [← HW2.out]
  with_reducible refine H2.out.mono ?_
  rintro e v2 ⟨rfl, hv2⟩
  have PB := Lib.hid (B2.out.trans (hv2.mono B2.out.size))
  have PL := Lib.hid (L2.out.below hv2)
  clear hv2 B2 L2 I2 HW2
  obtain ⟨W3, hW3⟩ : ∃ W, W = World.alloc v2 (.cells #[.int .i64 0] 3) := ⟨_, rfl⟩
  have hb3 : Below v2.heap.size v2 W3 := by rw [hW3]; exact (Below.refl _ _).alloc (Nat.le_refl _) _
  have I3 := Lib.hid (show Its W3 (.slice (some ⟨v2.heap.size, 0, none⟩) 1 1) [0] from its_of_block (l := [0]) (by rw [hW3]; exact heap_alloc_new v2 _))
  have B3 := Lib.hid (PB.out.trans (hb3.mono PB.out.size))
  have L3 := Lib.hid (PL.out.below hb3)
  have HW3 := Lib.hid hW3
  have C3 := check_any W3 _ _ LW [0] L3.out I3.out len3 (show ([0] : List Int).length < 10000 by simp) hlp3
  rw [c0] at C3
  have H3 := Lib.hid C3
  clear hW3 hb3 PB PL C3
  go_wp2_with fail
  rw [← HW3.out]
  with_reducible refine H3.out.mono ?_
  rintro e v3 ⟨rfl, hv3⟩
  have PB := Lib.hid (B3.out.trans (hv3.mono B3.out.size))
  have PL := Lib.hid (L3.out.below hv3)
  clear hv3 B3 L3 I3 HW3
  obtain ⟨W4, hW4⟩ : ∃ W, W = World.alloc v3 (.cells #[.int .i64 0, .int .i64 1] 3) := ⟨_, rfl⟩
  have hb4 : Below v3.heap.size v3 W4 := by rw [hW4]; exact (Below.refl _ _).alloc (Nat.le_refl _) _
  have I4 := Lib.hid (show Its W4 (.slice (some ⟨v3.heap.size, 0, none⟩) 2 2) [0, 1] from its_of_block (l := [0, 1]) (by rw [hW4]; exact heap_alloc_new v3 _))
  have B4 := Lib.hid (PB.out.trans (hb4.mono PB.out.size))
  have L4 := Lib.hid (PL.out.below hb4)
  have HW4 := Lib.hid hW4
  have C4 := tours_any W4 _ _ LW [0, 1] L4.out I4.out len3 (show ([0, 1] : List Int).length < 10000 by simp) hlp3
  rw [t01] at C4
  have H4 := Lib.hid C4
  clear hW4 hb4 PB PL C4
  go_wp2_with fail
  rw [← HW4.out]
  with_reducible refine H4.out.mono ?_
  rintro e v4 ⟨rfl, hv4⟩
  have PB := Lib.hid (B4.out.trans (hv4.mono B4.out.size))
  have PL := Lib.hid (L4.out.below hv4)
  clear hv4 B4 L4 I4 HW4
  obtain ⟨W5, hW5⟩ : ∃ W, W = World.alloc v4 (.cells #[.int .i64 0, .int .i64 1] 3) := ⟨_, rfl⟩
  have hb5 : Below v4.heap.size v4 W5 := by rw [hW5]; exact (Below.refl _ _).alloc (Nat.le_refl _) _
  have I5 := Lib.hid (show Its W5 (.slice (some ⟨v4.heap.size, 0, none⟩) 2 2) [0, 1] from its_of_block (l := [0, 1]) (by rw [hW5]; exact heap_alloc_new v4 _))
  have B5 := Lib.hid (PB.out.trans (hb5.mono PB.out.size))
  have L5 := Lib.hid (PL.out.below hb5)
  have HW5 := Lib.hid hW5
  have C5 := span_any W5 _ _ LW [0, 1] 2 L5.out I5.out len3 (show ([0, 1] : List Int).length < 10000 by simp)
  rw [s01.1, s01.2] at C5
  have H5 := Lib.hid C5
  clear hW5 hb5 PB PL C5
  go_wp2_with fail
  rw [← HW5.out]
  with_reducible refine H5.out.mono ?_
  rintro e v5 ⟨rfl, hv5⟩
  have PB := Lib.hid (B5.out.trans (hv5.mono B5.out.size))
  have PL := Lib.hid (L5.out.below hv5)
  clear hv5 B5 L5 I5 HW5
  obtain ⟨W6, hW6⟩ : ∃ W, W = World.alloc v5 (.cells #[.int .i64 0] 3) := ⟨_, rfl⟩
  have hb6 : Below v5.heap.size v5 W6 := by rw [hW6]; exact (Below.refl _ _).alloc (Nat.le_refl _) _
  have I6 := Lib.hid (show Its W6 (.slice (some ⟨v5.heap.size, 0, none⟩) 1 1) [0] from its_of_block (l := [0]) (by rw [hW6]; exact heap_alloc_new v5 _))
  have B6 := Lib.hid (PB.out.trans (hb6.mono PB.out.size))
  have L6 := Lib.hid (PL.out.below hb6)
  have HW6 := Lib.hid hW6
  have C6 := map_any W6 _ _ LW [0] L6.out I6.out len3 (show ([0] : List Int).length < 10000 by simp)
  have H6 := Lib.hid C6
  clear hW6 hb6 PB PL C6
  go_wp2_with fail
  rw [← HW6.out]
  with_reducible refine H6.out.mono ?_
  rintro e v6 ⟨v', rfl, hp6, hv6⟩
  have PB := Lib.hid (B6.out.trans (hv6.mono B6.out.size))
  have M6 := Lib.hid m0
  obtain ⟨A6, cap6, e6, _⟩ := hp6
  subst e6
  rw [M6.out]
  clear hv6 B6 L6 I6 HW6
  go_wp2_with fail
  go_ret
  exact ⟨rfl, PB.out⟩
end Go.Proofs.Ytdhgacionopghaa.Od
