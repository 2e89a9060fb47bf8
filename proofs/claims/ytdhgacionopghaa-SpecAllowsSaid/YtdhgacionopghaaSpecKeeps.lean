/- spec: the law SpecKeeps. -/
import Derived.Outline
import Derived.Test.YtdhgacionopghaaSpecDoes
namespace Go.Proofs.Ytdhgacionopghaa.Sp
open Go.RowKit Go.Shelf Dc DcM DcW DcI DcR DcL
set_option linter.unusedVariables false
theorem below_ne {m : List Pr} {k : ByteArray} : (below k m).filter (fun p => !decide (p.1 = k)) = below k m := List.filter_eq_self.2 fun p hp => by simpa using lt_ne (below_mem hp)
theorem above_ne {m : List Pr} {k : ByteArray} : (above k m).filter (fun p => !decide (p.1 = k)) = above k m := List.filter_eq_self.2 fun p hp => by simpa using (lt_ne (above_mem hp)).symm
theorem rdel_del {m : List Pr} (k : ByteArray) : rdel (del m k) k = del m k := by
  unfold rdel del
  rw [List.filter_append, below_ne, above_ne]
theorem rdel_put {m : List Pr} (k v : ByteArray) : rdel (put m k v) k = del m k := by
  unfold rdel put del
  rw [List.filter_append, List.filter_cons_of_neg (by simp), below_ne, above_ne]
theorem at_below {m : List Pr} {k : ByteArray} : at_ k (below k m) = [] := List.filter_eq_nil_iff.2 fun p hp => by simpa using lt_ne (below_mem hp)
theorem at_above {m : List Pr} {k : ByteArray} : at_ k (above k m) = [] := List.filter_eq_nil_iff.2 fun p hp => by simpa using (lt_ne (above_mem hp)).symm
theorem dget_del {m : List Pr} (k : ByteArray) : dget (del m k) k = (⟨#[]⟩, false) := by
  apply dget_none
  have e : at_ k (del m k) = at_ k (below k m) ++ at_ k (above k m) := by unfold at_ del; rw [List.filter_append]
  rw [e, at_below, at_above]; rfl
theorem dget_put {m : List Pr} (k v : ByteArray) : dget (put m k v) k = (v, true) := by
  have e : at_ k (put m k v) = at_ k (below k m) ++ (k, v) :: at_ k (above k m) := by unfold at_ put; rw [List.filter_append, List.filter_cons_of_pos (by simp)]
  unfold dget
  rw [e, at_below]; rfl
/-- what the law asks -/
theorem keeps_pure {m : List Pr} {o : OpL} (hs : Sorted m) (h9 : o.kind ≠ 9) :
    rdel (doM m o) o.key = rdel m o.key ∧ ((doR m o).did = false → doM m o = m) ∧ ((doR m o).did = true → (doR m o).err = 0 ∧ 2 ≤ o.kind ∧ o.kind ≤ 7 ∧ (o.kind = 6 ∨ o.kind = 7 → (dget m o.key).2 = true ∧ (dget (doM m o) o.key).2 = false) ∧ (¬ (o.kind = 6 ∨ o.kind = 7) → dget (doM m o) o.key = (o.value, true))) := by
  unfold doM doR
  by_cases h0 : o.kind < 1 ∨ 11 < o.kind
  · rw [if_pos h0, if_pos h0]; exact ⟨rfl, fun _ => rfl, fun h => by cases h⟩
  rw [if_neg h0, if_neg h0]
  by_cases hl : long o = true
  · rw [if_pos hl, if_pos hl]; exact ⟨rfl, fun _ => rfl, fun h => by cases h⟩
  rw [if_neg hl, if_neg hl]
  by_cases h8 : o.kind = 8
  · rw [if_pos h8, if_pos h8]; exact ⟨rfl, fun _ => rfl, fun h => by cases h⟩
  rw [if_neg h8, if_neg h8, if_neg h9, if_neg h9]
  by_cases h10 : o.kind = 10
  · rw [if_pos h10, if_pos h10]; exact ⟨rfl, fun _ => rfl, fun h => by cases h⟩
  rw [if_neg h10, if_neg h10]
  by_cases h11 : o.kind = 11
  · rw [if_pos h11, if_pos h11]; exact ⟨rfl, fun _ => rfl, fun h => by cases h⟩
  rw [if_neg h11, if_neg h11]
  unfold keyedM keyedR
  cases hh : hit o (dget m o.key) with
  | false => exact ⟨rfl, fun _ => rfl, fun h => by cases h⟩
  | true =>
    have hk : 2 ≤ o.kind := by
      simp only [hit, Bool.or_eq_true, Bool.and_eq_true, decide_eq_true_eq] at hh
      omega
    by_cases h6 : 6 ≤ o.kind
    · rw [if_pos rfl, if_pos h6]
      have hg : (dget m o.key).2 = true := by
        simp only [hit, Bool.or_eq_true, Bool.and_eq_true, decide_eq_true_eq] at hh
        rcases hh with ((hh | hh) | hh) | hh
        · omega
        · omega
        · exact hh.2
        · exact hh.1.2
      exact ⟨(by rw [rdel_del, rdel_sorted hs]), fun h => (by cases h), fun _ => ⟨rfl, hk, (by omega), fun _ => ⟨hg, (by rw [dget_del])⟩, fun h => (by omega)⟩⟩
    · rw [if_pos rfl, if_neg h6]
      exact ⟨(by rw [rdel_put, rdel_sorted hs]), fun h => (by cases h), fun _ => ⟨rfl, hk, (by omega), fun h => (by omega), fun _ => dget_put _ _⟩⟩
theorem nine {m : List Pr} {o : OpL} (h9 : o.kind = 9) : doM m o = [] ∧ doR m o = { did := true } := by
  have hl : long o = false := by unfold long; simp [h9]
  constructor
  · simp [doM, hl, h9]
  · simp [doR, hl, h9]

set_option maxRecDepth 100000 in
set_option maxHeartbeats 16000000 in
theorem keeps_any (w : World) (v : Value) (m : List Pr) (hP : Prs w v m) (hn : m.length ≤ maxLen) (o : OpL) (hz : o.key.size ≤ maxLen ∧ o.value.size ≤ maxLen ∧ o.old.size ≤ maxLen) :
    Calls Try.prog 5 #[v, .agg #[.int .i64 o.kind, .string o.key, .string o.value, .string o.old]] w fun e w' => e = .returned (.bool true) ∧ Below w.heap.size w w' := by
  obtain ⟨W1, hW1⟩ : ∃ W, W = w.alloc (.cells #[.int .i64 o.kind, .string o.key, .string o.value, .string o.old] 27) := ⟨_, rfl⟩
  have hb1 : Below w.heap.size w W1 := by rw [hW1]; exact (Below.refl _ _).alloc (Nat.le_refl _) _
  have hx1 : W1.heap[w.heap.size]? = some (.cells #[.int .i64 o.kind, .string o.key, .string o.value, .string o.old] 27 (0, 0)) := by rw [hW1]; exact heap_alloc_new w _
  have hs1 : W1.heap.size = w.heap.size + 1 := by rw [hW1]; simp
  have HP := Lib.hid hP
  obtain ⟨A, cap, rfl, _, _⟩ := hP
  have B1 := Lib.hid hb1
  have X1 := Lib.hid hx1
  have HW := Lib.hid hW1
  have HS1 := Lib.hid hs1
  have HZ := Lib.hid hz
  clear hb1 hx1 hW1 hs1 hz
  by_cases hl : 40 < m.length
  · go_enter Try.func5, Try.ntmps5
    go_wp2_with fail
    rw [← HW.out]
    refine (awake_any _).mono ?_
    rintro e w2 ⟨rfl, hb⟩
    have HB := Lib.hid (B1.out.trans (hb.mono B1.out.size))
    clear hb
    go_wp2_with fail
    go_ret
    exact ⟨rfl, HB.out⟩
  · go_enter Try.func5, Try.ntmps5
    go_wp2_with fail
    rw [← HW.out]
    refine (short_any W1 o.kind o.key o.value o.old HZ.out.1 HZ.out.2.1 HZ.out.2.2).mono ?_
    cases hsh : shortB ⟨o.kind, o.key, o.value, o.old⟩ with
    | false =>
      rintro e w2 ⟨rfl, hb2⟩
      have B2 := Lib.hid (B1.out.trans (hb2.mono B1.out.size))
      clear hb2 hsh
      go_wp2_with fail
      refine (awake_any _).mono ?_
      rintro e w3 ⟨rfl, hb3⟩
      have B3 := Lib.hid (B2.out.trans (hb3.mono B2.out.size))
      clear hb3
      go_wp2_with fail
      go_ret
      exact ⟨rfl, B3.out⟩
    | true =>
      rintro e w2 ⟨rfl, hb2⟩
      have B2 := Lib.hid (B1.out.trans (hb2.mono B1.out.size))
      have hx2 := (hb2.block _ (by rw [HS1.out]; omega)).trans X1.out
      have hs2 : w.heap.size + 1 ≤ w2.heap.size := by have := hb2.size; rw [HS1.out] at this; exact this
      have X2 := Lib.hid hx2
      clear hb2 hsh hx2
      go_wp2_with fail
      refine (right_ref' w2 _ m (HP.out.below B2.out) (by omega)).mono ?_
      cases hso : decide (Sorted m) with
      | false =>
        rintro e w3 ⟨rfl, n, rfl⟩
        clear hso
        go_wp2_with fail
        refine (awake_any _).mono ?_
        rintro e w3 ⟨rfl, hb3⟩
        have B3 := Lib.hid ((dn B2.out n).trans (hb3.mono B2.out.size))
        clear hb3
        go_wp2_with fail
        go_ret
        exact ⟨rfl, B3.out⟩
      | true =>
        have HSO := Lib.hid (of_decide_eq_true hso)
        rintro e w3 ⟨rfl, n, hw3⟩
        have hx3 : w3.heap[w.heap.size]? = some (.cells #[.int .i64 o.kind, .string o.key, .string o.value, .string o.old] 27 (0, 0)) := by rw [hw3]; exact X2.out
        have hb3 : Below w.heap.size w w3 := by rw [hw3]; exact dn B2.out n
        have hs3 : w.heap.size + 1 ≤ w3.heap.size := by rw [hw3]; exact hs2
        have f0 := cell_of hx3 0
        have f1 := cell_of hx3 1
        have f2 := cell_of hx3 2
        have f3 := cell_of hx3 3
        simp only [List.getElem?_toArray, List.getElem?_cons_succ, List.getElem?_cons_zero] at f0 f1 f2 f3
        have B3 := Lib.hid hb3
        have X3 := Lib.hid hx3
        clear hso hx3 hb3 hw3
        go_wp2_with fail
        refine (do_spec w3 _ m (HP.out.below B3.out) HSO.out (by omega) o.kind o.key o.value o.old ⟨HZ.out.1, HZ.out.2.1⟩).mono ?_
        have hll := length_doM (o := o) HSO.out
        have HSD := Lib.hid (sorted_doM (o := o) HSO.out)
        have KP := fun h9 => keeps_pure (o := o) HSO.out h9
        have K9 := fun h9 => nine (m := m) (o := o) h9
        obtain ⟨r, hr⟩ : ∃ r, r = doR m o := ⟨_, rfl⟩
        obtain ⟨l', hl'⟩ : ∃ l', l' = doM m o := ⟨_, rfl⟩
        rw [show (⟨o.kind, o.key, o.value, o.old⟩ : OpL) = o from rfl, ← hr, ← hl']
        rw [← hl'] at hll HSD
        simp only [← hr, ← hl'] at KP K9
        have HKP := Lib.hid KP
        have HK9 := Lib.hid K9
        clear KP K9 hr hl'
        unfold repC
        rintro e w4 ⟨v4, p4, rfl, hn4, hq4, hb4⟩
        obtain ⟨A4, c4, e4, _⟩ := id hq4
        subst e4
        obtain ⟨A5, c5, e5, _⟩ := id hn4
        subst e5
        obtain ⟨W5, hW5⟩ : ∃ W, W = w4.alloc (.cells #[.int .i64 r.err, .bool r.had, .bool r.did, .string r.value, .int .i64 r.n, .slice A4 r.pairs.length c4] 30) := ⟨_, rfl⟩
        have hb5 : Below w4.heap.size w4 W5 := by rw [hW5]; exact (Below.refl _ _).alloc (Nat.le_refl _) _
        have hr5 : W5.heap[w4.heap.size]? = some (.cells #[.int .i64 r.err, .bool r.had, .bool r.did, .string r.value, .int .i64 r.n, .slice A4 r.pairs.length c4] 30 (0, 0)) := by rw [hW5]; exact heap_alloc_new w4 _
        have hs5 : W5.heap.size = w4.heap.size + 1 := by rw [hW5]; simp
        have hs4 := hb4.size
        have hx5 := ((hb5.block w.heap.size (by omega)).trans (hb4.block _ (by omega))).trans X3.out
        have B5 := Lib.hid ((B3.out.trans (hb4.mono B3.out.size)).trans (hb5.mono (B3.out.trans (hb4.mono B3.out.size)).size))
        have N5 := Lib.hid (hn4.below hb5)
        have X5 := Lib.hid hx5
        have R5 := Lib.hid hr5
        have HS5 := Lib.hid hs5
        have HW5 := Lib.hid hW5
        clear hb4 hn4 hq4 hb5 hr5 hs5 hW5 hx5 f0 f1 f2 f3
        dsimp only
        go_wp2_with fail
        rw [← HW5.out]
        refine (rightB_spec W5 _ l' N5.out (by omega)).mono ?_
        rw [decide_eq_true HSD.out]
        rintro e w6 ⟨rfl, hb6⟩
        have hs6 := hb6.size
        rw [HS5.out] at hs6
        have hx6 := (hb6.block w.heap.size (by rw [HS5.out]; omega)).trans X5.out
        have hr6 := (hb6.block w4.heap.size (by rw [HS5.out]; omega)).trans R5.out
        have f0 := cell_of hx6 0
        have f1 := cell_of hx6 1
        have f2 := cell_of hx6 2
        have g0 := cell_of hr6 0
        have g2 := cell_of hr6 2
        simp only [List.getElem?_toArray, List.getElem?_cons_succ, List.getElem?_cons_zero] at f0 f1 f2 g0 g2
        have B6 := Lib.hid (B5.out.trans (hb6.mono B5.out.size))
        have N6 := Lib.hid (N5.out.below hb6)
        have X6 := Lib.hid hx6
        have R6 := Lib.hid hr6
        clear hb6 hx6 hr6
        by_cases h9 : o.kind = 9
        · obtain ⟨e1, e2⟩ := HK9.out h9
          have hb9 : (o.kind == 9) = true := by rw [beq_iff_eq]; exact h9
          subst e1
          rw [e2] at g2
          clear h9 g0
          go_wp2_with fail
          refine (awake_any _).mono ?_
          rintro e w7 ⟨rfl, hb⟩
          have B7 := Lib.hid (B6.out.trans (hb.mono B6.out.size))
          clear hb
          go_wp2_with fail
          go_ret
          exact ⟨rfl, B7.out⟩
        · have hb9 : (o.kind == 9) = false := by rw [beq_eq_false_iff_ne]; exact h9
          obtain ⟨q1, q2, q3⟩ := HKP.out h9
          have Q1 := Lib.hid q1
          have Q2 := Lib.hid q2
          have Q3 := Lib.hid q3
          clear h9 q1 q2 q3 g0 g2
          go_wp2_with fail
          have hwd : w.heap.size < w6.drew.heap.size := by show w.heap.size < w6.heap.size; omega
          have hwr : w4.heap.size < w6.drew.heap.size := by show w4.heap.size < w6.heap.size; omega
          have PD := Lib.hid (N6.out.below (Below.refl _ _).drew)
          have BD := Lib.hid B6.out.drew
          go_region_held3 (fun w' => w'.cell? ⟨w.heap.size, 1, none⟩ = some (.string o.key))
            (first | (with_reducible assumption) | go_keep)
            (first
              | (go_at_call 22; refine (del_ref _ (.slice A m.length cap) m o.key (HP.out.below B7.out) (by omega)).mono ?_; rw [← Q1.out]; rintro e w8 ⟨v8, rfl, hp8, hb8⟩; have f1 := (hb8.cell (p := ⟨w.heap.size, 1, none⟩) (show w.heap.size < w7.heap.size from Nat.lt_of_lt_of_le hwd hs7)).trans f1; have P8 := Lib.hid (Prs.of_owns hp8); have P7 := Lib.hid ((Prs.of_owns D7.out).below hb8); have B8 := Lib.hid (B7.out.trans (hb8.mono B7.out.size)); have H8 := Lib.hid (H7.out.trans (hb8.mono H7.out.size)); clear hp8 hb8)
              | (go_at_call 22; refine (del_ref _ (.slice A5 l'.length c5) l' o.key PD.out (by omega)).mono ?_; rintro e w7 ⟨v7, rfl, hp7, hb7⟩; have hs7 := hb7.size; have f1 := (hb7.cell (p := ⟨w.heap.size, 1, none⟩) hwd).trans f1; have D7 := Lib.hid hp7; have B7 := Lib.hid (BD.out.trans (hb7.mono BD.out.size)); have H7 := Lib.hid hb7; clear hp7 hb7)
              | (go_at_call 13; with_reducible refine (sameB_ref _ v7 v8 (rdel l' o.key) (rdel l' o.key) P7.out P8.out (Nat.lt_of_le_of_lt (rdel_length_le _ _) (by omega))).mono ?_; rw [show decide (rdel l' o.key = rdel l' o.key) = true from decide_eq_true rfl]; rintro e w9 ⟨rfl, hb9⟩; have f1 := (hb9.cell (p := ⟨w.heap.size, 1, none⟩) (show w.heap.size < w8.heap.size from Nat.lt_of_lt_of_le hwd H8.out.size)).trans f1; have B9 := Lib.hid (B8.out.trans (hb9.mono B8.out.size)); have H9 := Lib.hid (H8.out.trans (hb9.mono H8.out.size)); clear hb9))
          have hx9 : w9.heap[w.heap.size]? = some (.cells #[.int .i64 o.kind, .string o.key, .string o.value, .string o.old] 27 (0, 0)) := (H9.out.block w.heap.size hwd).trans X6.out
          have hr9 : w9.heap[w4.heap.size]? = some (.cells #[.int .i64 r.err, .bool r.had, .bool r.did, .string r.value, .int .i64 r.n, .slice A4 r.pairs.length c4] 30 (0, 0)) := (H9.out.block w4.heap.size hwr).trans R6.out
          have k0 := cell_of hx9 0
          have k1 := cell_of hx9 1
          have k2 := cell_of hx9 2
          have j0 := cell_of hr9 0
          have j2 := cell_of hr9 2
          simp only [List.getElem?_toArray, List.getElem?_cons_succ, List.getElem?_cons_zero] at k0 k1 k2 j0 j2
          have PM9 := Lib.hid (HP.out.below B9.out)
          have PN9 := Lib.hid ((N6.out.below (Below.refl _ _).drew).below H9.out)
          clear f0 f2 hx9 hr9
          go_wp2_with fail
          refine (get_ref w9 _ m o.key PM9.out (by omega)).mono ?_
          obtain ⟨⟨ga, gb⟩, hga⟩ : ∃ x, x = dget m o.key := ⟨_, rfl⟩
          rw [← hga]
          rintro e w10 ⟨rfl, hw10⟩
          subst hw10
          dsimp only
          go_wp2_with fail
          refine (get_ref _ _ l' o.key PN9.out (by omega)).mono ?_
          obtain ⟨⟨gc, gd⟩, hgc⟩ : ∃ x, x = dget l' o.key := ⟨_, rfl⟩
          rw [← hgc]
          rintro e w11 ⟨rfl, hw11⟩
          subst hw11
          dsimp only
          cases hdid : r.did with
          | false =>
            rw [hdid] at j2
            have hlm := Q2.out hdid
            rw [hlm, ← hga] at hgc
            simp only [Prod.mk.injEq] at hgc
            obtain ⟨rfl, rfl⟩ := hgc
            clear hga hdid hlm
            go_wp2_with fail
            refine (awake_any _).mono ?_
            rintro e w12 ⟨rfl, hb⟩
            have B12 := Lib.hid (B9.out.trans (hb.mono B9.out.size))
            clear hb
            go_wp2_with fail
            go_ret
            exact ⟨rfl, B12.out⟩
          | true =>
            rw [hdid] at j2
            obtain ⟨y0, y1, y2, y3, y4⟩ := Q3.out hdid
            rw [y0] at j0
            by_cases h67 : o.kind = 6 ∨ o.kind = 7
            · obtain ⟨z1, z2⟩ := y3 h67
              rw [← hga] at z1
              rw [← hgc] at z2
              dsimp only at z1 z2
              subst z1 z2
              clear y0 y1 y2 y3 y4 hga hgc hdid
              rcases h67 with h6 | h7
              · have e6 : (o.kind == 6) = true := by rw [beq_iff_eq]; exact h6
                clear h6
                go_wp2_with fail
                refine (awake_any _).mono ?_
                rintro e w12 ⟨rfl, hb⟩
                have B12 := Lib.hid (B9.out.trans (hb.mono B9.out.size))
                clear hb
                go_wp2_with fail
                go_ret
                exact ⟨rfl, B12.out⟩
              · have e6 : (o.kind == 6) = false := by rw [beq_eq_false_iff_ne]; omega
                have e7 : (o.kind == 7) = true := by rw [beq_iff_eq]; exact h7
                clear h7
                go_wp2_with fail
                refine (awake_any _).mono ?_
                rintro e w12 ⟨rfl, hb⟩
                have B12 := Lib.hid (B9.out.trans (hb.mono B9.out.size))
                clear hb
                go_wp2_with fail
                go_ret
                exact ⟨rfl, B12.out⟩
            · have z := y4 h67
              rw [← hgc] at z
              simp only [Prod.mk.injEq] at z
              obtain ⟨rfl, rfl⟩ := z
              have e6 : (o.kind == 6) = false := by rw [beq_eq_false_iff_ne]; exact fun h => h67 (Or.inl h)
              have e7 : (o.kind == 7) = false := by rw [beq_eq_false_iff_ne]; exact fun h => h67 (Or.inr h)
              clear y0 y1 y2 y3 y4 hga hgc hdid h67
              go_wp2_with fail
              refine (awake_any _).mono ?_
              rintro e w12 ⟨rfl, hb⟩
              have B12 := Lib.hid (B9.out.trans (hb.mono B9.out.size))
              clear hb
              go_wp2_with fail
              go_ret
              exact ⟨rfl, B12.out⟩
set_option maxRecDepth 100000 in
theorem open_op {H : Type} {enc : TypeId × Value → H} {W : World} {base : Nat} {spare : Nat → Bool} {held : Bool} {r : Reach} {b0 : Nat} {v : Value} {d : DataW H} {ps : List MemPlace} (hval : Value.okWide Try.prog W r b0 27 v)
    (h : DataW.Trod enc Try.prog W base spare held 27 v d ps) : ∃ o : OpL, v = .agg #[.int .i64 o.kind, .string o.key, .string o.value, .string o.old] ∧ (o.key.size ≤ maxLen ∧ o.value.size ≤ maxLen ∧ o.old.size ≤ maxLen) := by
  have hu := Try.underlying27
  obtain ⟨cs, rfl, hsz, hf⟩ := Opn.open_agg hu (by kernel_rfl) (by kernel_rfl) hval h
  obtain ⟨l⟩ := cs
  match l, hsz with
  | [u0, u1, u2, u3], _ =>
    obtain ⟨v0, y0, n0, c0, t0⟩ := hf 0 _ rfl
    obtain ⟨v1, y1, n1, c1, t1⟩ := hf 1 _ rfl
    obtain ⟨v2, y2, n2, c2, t2⟩ := hf 2 _ rfl
    obtain ⟨v3, y3, n3, c3, t3⟩ := hf 3 _ rfl
    obtain ⟨k, rfl, _⟩ := Opn.cell_int Try.underlying3 t0
    obtain ⟨s1, rfl, l1⟩ := Opn.cell_str Try.underlying9 t1
    obtain ⟨s2, rfl, l2⟩ := Opn.cell_str Try.underlying9 t2
    obtain ⟨s3, rfl, l3⟩ := Opn.cell_str Try.underlying9 t3
    simp at c0 c1 c2 c3
    subst c0 c1 c2 c3
    exact ⟨⟨k, s1, s2, s3⟩, rfl, l1, l2, l3⟩
end Go.Proofs.Ytdhgacionopghaa.Sp
