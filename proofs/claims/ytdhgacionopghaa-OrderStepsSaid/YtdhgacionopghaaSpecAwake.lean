/- spec: the law's short and awake. -/
import Derived.Test.YtdhgacionopghaaSpecAllows
import Derived.Test.YtdhgacionopghaaSpecAllowsR
namespace Go.Proofs.Ytdhgacionopghaa.Sp
open Go.RowKit Go.Shelf Dc DcM DcW DcI DcR DcL
set_option linter.unusedVariables false
def shortB (o : OpL) : Bool := decide (o.key.size < 100) && decide (o.value.size < 100) && decide (o.old.size < 100)
set_option maxHeartbeats 4000000 in
theorem short_any (w : World) (kd : Int) (key value old : ByteArray) (h1 : key.size ≤ maxLen) (h2 : value.size ≤ maxLen) (h3 : old.size ≤ maxLen) :
    Calls Try.prog 10 #[.agg #[.int .i64 kd, .string key, .string value, .string old]] w fun e w' => e = .returned (.bool (shortB ⟨kd, key, value, old⟩)) ∧ Below w.heap.size w w' := by
  have hb : Below w.heap.size w (w.alloc (.cells #[.int .i64 kd, .string key, .string value, .string old] 27)) := (Below.refl _ _).alloc (Nat.le_refl _) _
  have HB := Lib.hid hb
  clear hb
  unfold maxLen at h1 h2 h3
  go_enter Try.func10, Try.ntmps10
  go_wp2
  all_goals go_ret
  all_goals refine ⟨bool_ret ?_, HB.out⟩
  all_goals (rw [Bool.eq_iff_iff]; simp only [shortB, Bool.and_eq_true, decide_eq_true_eq, false_iff, Bool.false_eq_true]; omega)
theorem lt_ab : lt ⟨#[97]⟩ ⟨#[98]⟩ = true := by
  unfold lt; rw [Lib.toList_data, Lib.toList_data]; rfl
abbrev M1 : List Pr := [(⟨#[97]⟩, ⟨#[49]⟩)]
theorem sorted_m1 : Sorted M1 := List.pairwise_singleton _ _
theorem dg_a : dget M1 ⟨#[97]⟩ = (⟨#[49]⟩, true) := by simp [dget, at_]
theorem dg_b : dget M1 ⟨#[98]⟩ = (⟨#[]⟩, false) := by
  have : (⟨#[97]⟩ : ByteArray) ≠ ⟨#[98]⟩ := lt_ne lt_ab
  simp [dget, at_, this]
theorem put_b : put M1 ⟨#[98]⟩ ⟨#[50]⟩ = [(⟨#[97]⟩, ⟨#[49]⟩), (⟨#[98]⟩, ⟨#[50]⟩)] := by
  simp [put, Dc.below, above, lt_ab, lt_asymm lt_ab]
theorem ne12 : (⟨#[49]⟩ : ByteArray) ≠ ⟨#[50]⟩ := by decide
theorem r_cas : doR M1 ⟨5, ⟨#[97]⟩, ⟨#[51]⟩, ⟨#[50]⟩⟩ = { had := true, value := ⟨#[49]⟩ } := by
  have hl : long ⟨5, ⟨#[97]⟩, ⟨#[51]⟩, ⟨#[50]⟩⟩ = false := by decide
  unfold doR keyedR hit
  rw [if_neg (by decide), hl]
  simp [dg_a]
theorem r_put : doR M1 ⟨2, ⟨#[98]⟩, ⟨#[50]⟩, ⟨#[]⟩⟩ = { did := true } := by
  have hl : long ⟨2, ⟨#[98]⟩, ⟨#[50]⟩, ⟨#[]⟩⟩ = false := by decide
  unfold doR keyedR hit
  rw [if_neg (by decide), hl]
  simp [dg_b]
theorem m_put : doM M1 ⟨2, ⟨#[98]⟩, ⟨#[50]⟩, ⟨#[]⟩⟩ = [(⟨#[97]⟩, ⟨#[49]⟩), (⟨#[98]⟩, ⟨#[50]⟩)] := by
  have hl : long ⟨2, ⟨#[98]⟩, ⟨#[50]⟩, ⟨#[]⟩⟩ = false := by decide
  unfold doM keyedM hit
  rw [if_neg (by decide), hl]
  simp [put_b]
theorem r_get : doR M1 ⟨1, ⟨#[97]⟩, ⟨#[]⟩, ⟨#[]⟩⟩ = { had := true, value := ⟨#[49]⟩ } := by
  have hl : long ⟨1, ⟨#[97]⟩, ⟨#[]⟩, ⟨#[]⟩⟩ = false := by decide
  unfold doR keyedR hit
  rw [if_neg (by decide), hl]
  simp [dg_a]
theorem al_get : allowsB M1 ⟨1, ⟨#[97]⟩, ⟨#[]⟩, ⟨#[]⟩⟩ { err := 10 } = true := by
  unfold allowsB
  rw [r_get]
  rfl
theorem sorted_put : Sorted [((⟨#[97]⟩, ⟨#[49]⟩) : Pr), (⟨#[98]⟩, ⟨#[50]⟩)] := by
  refine List.pairwise_cons.2 ⟨fun q hq => ?_, List.pairwise_singleton _ _⟩
  simp at hq
  subst hq
  exact lt_ab
theorem sz1 (b : UInt8) : (⟨#[b]⟩ : ByteArray).size = 1 := rfl
theorem sz0 : (⟨#[]⟩ : ByteArray).size = 0 := rfl
set_option maxRecDepth 100000 in
set_option maxHeartbeats 8000000 in
theorem awake_any (w : World) : Calls Try.prog 9 #[] w fun e w' => e = .returned (.bool true) ∧ Below w.heap.size w w' := by
  obtain ⟨W1, hW1⟩ : ∃ W, W = w.alloc (.cells #[.string ⟨#[97]⟩, .string ⟨#[49]⟩] 62) := ⟨_, rfl⟩
  have hb1 : Below w.heap.size w W1 := by rw [hW1]; exact (Below.refl _ _).alloc (Nat.le_refl _) _
  have hp1 : Prs W1 (.slice (some ⟨w.heap.size, 0, none⟩) 1 1) M1 := by
    rw [hW1]
    exact Prs.of_owns (base := w.heap.size) (e := 62) (World.ownsRow_lit (base := w.heap.size) (e := 62) (size := 2) w #[.string ⟨#[97]⟩, .string ⟨#[49]⟩] 1 (Nat.le_refl _) (by decide) rfl)
  have HW1 := Lib.hid hW1
  have B1 := Lib.hid hb1
  have P1 := Lib.hid hp1
  clear hW1 hb1 hp1
  go_enter Try.func9, Try.ntmps9
  go_wp2_with fail
  rw [← HW1.out]
  refine (do_spec W1 _ M1 P1.out sorted_m1 (by decide) 5 ⟨#[97]⟩ ⟨#[51]⟩ ⟨#[50]⟩ (by simp [sz1, maxLen])).mono ?_
  rw [r_cas]
  rintro e w2 ⟨v2, p2, rfl, _, hq2, hb2⟩
  obtain ⟨A2, c2, e2, _⟩ := id hq2
  subst e2
  obtain ⟨W3, hW3⟩ : ∃ W, W = w2.alloc (.cells #[.int .i64 0, .bool true, .bool false, .string ⟨#[49]⟩, .int .i64 0, .slice A2 0 c2] 30) := ⟨_, rfl⟩
  have hb3 : Below w2.heap.size w2 W3 := by rw [hW3]; exact (Below.refl _ _).alloc (Nat.le_refl _) _
  have hr3 : W3.heap[w2.heap.size]? = some (.cells #[.int .i64 0, .bool true, .bool false, .string ⟨#[49]⟩, .int .i64 0, .slice A2 0 c2] 30 (0, 0)) := by rw [hW3]; exact heap_alloc_new w2 _
  have hs3 : W3.heap.size = w2.heap.size + 1 := by rw [hW3]; simp
  have B3 := Lib.hid ((B1.out.trans (hb2.mono B1.out.size)).trans (hb3.mono (B1.out.trans (hb2.mono B1.out.size)).size))
  have Q3 := Lib.hid (hq2.below hb3)
  have P3 := Lib.hid ((P1.out.below hb2).below hb3)
  have R3 := Lib.hid hr3
  have HS3 := Lib.hid hs3
  have HW3 := Lib.hid hW3
  clear hb2 hq2 hb3 hr3 hW3 hs3
  unfold repC
  dsimp only
  go_wp2_with fail
  rw [← HW3.out]
  refine (do_spec W3 _ M1 P3.out sorted_m1 (by decide) 2 ⟨#[98]⟩ ⟨#[50]⟩ ⟨#[]⟩ (by simp [sz1, maxLen])).mono ?_
  rw [r_put, m_put]
  rintro e w4 ⟨v4, p4, rfl, hn4, hq4, hb4⟩
  obtain ⟨A4, c4, e4, _⟩ := id hq4
  subst e4
  obtain ⟨A5, c5, e5, _⟩ := id hn4
  subst e5
  obtain ⟨W5, hW5⟩ : ∃ W, W = w4.alloc (.cells #[.int .i64 0, .bool false, .bool true, .string ⟨#[]⟩, .int .i64 0, .slice A4 0 c4] 30) := ⟨_, rfl⟩
  have hb5 : Below w4.heap.size w4 W5 := by rw [hW5]; exact (Below.refl _ _).alloc (Nat.le_refl _) _
  have hr5 : W5.heap[w4.heap.size]? = some (.cells #[.int .i64 0, .bool false, .bool true, .string ⟨#[]⟩, .int .i64 0, .slice A4 0 c4] 30 (0, 0)) := by rw [hW5]; exact heap_alloc_new w4 _
  have hs5 : W5.heap.size = w4.heap.size + 1 := by rw [hW5]; simp
  have hz4 := hb4.size
  rw [HS3.out] at hz4
  have hr5' := ((hb5.block w2.heap.size (by omega)).trans (hb4.block _ (by rw [HS3.out]; omega))).trans R3.out
  have B5 := Lib.hid ((B3.out.trans (hb4.mono B3.out.size)).trans (hb5.mono (B3.out.trans (hb4.mono B3.out.size)).size))
  have N5 := Lib.hid (hn4.below hb5)
  have P5 := Lib.hid ((P3.out.below hb4).below hb5)
  have Q5 := Lib.hid ((Q3.out.below hb4).below hb5)
  have R5 := Lib.hid hr5
  have R5' := Lib.hid hr5'
  have HS5 := Lib.hid hs5
  have HW5 := Lib.hid hW5
  clear hb4 hn4 hq4 hb5 hr5 hr5' hW5 hs5
  unfold repC
  dsimp only
  go_wp2_with fail
  rw [← HW5.out]
  refine (allows_spec W5 _ M1 P5.out sorted_m1 (by decide) 1 ⟨#[97]⟩ ⟨#[]⟩ ⟨#[]⟩ (by simp [sz1, sz0, maxLen]) { err := 10 } (.slice none 0 0) (prs_nil _) (by decide)).mono ?_
  rw [al_get]
  rintro e w6 ⟨v6, rfl, _, hb6⟩
  have hz6 := hb6.size
  rw [HS5.out] at hz6
  have hr6 := (hb6.block _ (by rw [HS5.out]; omega)).trans R5'.out
  have hq6 := (hb6.block _ (by rw [HS5.out]; omega)).trans R5.out
  have s0 := cell_of hr6 0
  have s1 := cell_of hr6 1
  have s2 := cell_of hr6 2
  have s3 := cell_of hr6 3
  have s4 := cell_of hr6 4
  have s5 := cell_of hr6 5
  have t1 := cell_of hq6 1
  have t2 := cell_of hq6 2
  simp only [List.getElem?_toArray, List.getElem?_cons_succ, List.getElem?_cons_zero] at s0 s1 s2 s3 s4 s5 t1 t2
  have B6 := Lib.hid (B5.out.trans (hb6.mono B5.out.size))
  have N6 := Lib.hid (N5.out.below hb6)
  have Q6 := Lib.hid (Q5.out.below hb6)
  have HQ6 := Lib.hid hq6
  clear hb6 hr6 hq6
  go_wp2_with fail
  refine (same_spec w6 { had := true, value := ⟨#[49]⟩ } { had := true, value := ⟨#[49]⟩ } (.slice A2 0 c2) (.slice none 0 0) Q6.out (prs_nil _) (by decide)).mono ?_
  rw [show sameR { had := true, value := ⟨#[49]⟩ } { had := true, value := ⟨#[49]⟩ } = true from by decide]
  rintro e w7 ⟨rfl, hb7⟩
  have hq7 := (hb7.block _ (by omega)).trans HQ6.out
  have u1 := cell_of hq7 1
  have u2 := cell_of hq7 2
  simp only [List.getElem?_toArray, List.getElem?_cons_succ, List.getElem?_cons_zero] at u1 u2
  have B7 := Lib.hid (B6.out.trans (hb7.mono B6.out.size))
  have N7 := Lib.hid (N6.out.below hb7)
  clear hb7 hq7 s0 s1 s2 s3 s4 s5 t1 t2
  go_wp2_with fail
  refine (right_spec w7 _ _ N7.out (by simp)).mono ?_
  rw [decide_eq_true sorted_put]
  rintro e w8 ⟨rfl, n, rfl⟩
  go_wp2_with fail
  refine (long_spec _ 0 ⟨#[]⟩ ⟨#[]⟩ ⟨#[]⟩ (by simp [sz0]) (by simp [sz0])).mono ?_
  rw [show long ⟨0, ⟨#[]⟩, ⟨#[]⟩, ⟨#[]⟩⟩ = false from by decide]
  rintro e w9 ⟨rfl, hb9⟩
  have B9 := Lib.hid ((dn B7.out n).trans (hb9.mono B7.out.size))
  clear hb9
  go_wp2_with fail
  go_ret
  exact ⟨rfl, B9.out⟩
end Go.Proofs.Ytdhgacionopghaa.Sp
