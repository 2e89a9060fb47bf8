/- spec: the reference's Allows. -/
import Derived.Test.YtdhgacionopghaaGreatDoorSpecRef
namespace Go.Proofs.YtdhgacionopghaaGreatDoor.Sp
open Go.RowKit Go.Shelf Dc DcM DcW DcI DcR DcL
set_option linter.unusedVariables false
set_option maxHeartbeats 4000000 in
set_option maxRecDepth 100000 in
theorem allows_ref (w : World) (v : Value) (m : List Pr) (hP : Prs w v m) (hs : Sorted m) (hl : m.length < 99998) (kd : Int) (key value old : ByteArray) (hsz : key.size ≤ maxLen ∧ value.size ≤ maxLen) (rr : Rep) (pr : Value) (hPR : Prs w pr rr.pairs) (hlr : rr.pairs.length < 100000) :
    Calls Tryz.prog 27 #[v, .agg #[.int .i64 kd, .string key, .string value, .string old], .agg (repC rr pr)] w fun e w' => ∃ v',
      e = .returned (.tuple #[v', .bool (allowsB m ⟨kd, key, value, old⟩ rr)]) ∧ Prs w' v' (allowsM m ⟨kd, key, value, old⟩ rr) ∧ Below w.heap.size w w' := by
  obtain ⟨qe, qh, qd, qv, qn, qp⟩ := rr
  unfold repC
  dsimp only at hPR hlr
  obtain ⟨W1, hW1⟩ : ∃ W, W = (w.alloc (.cells #[.int .i64 kd, .string key, .string value, .string old] 42)).alloc (.cells #[.int .i64 qe, .bool qh, .bool qd, .string qv, .int .i64 qn, pr] 40) := ⟨_, rfl⟩
  have hb1 : Below w.heap.size w W1 := by rw [hW1]; exact ((Below.refl _ _).alloc (Nat.le_refl _) _).alloc (by simp) _
  have hx : W1.heap[w.heap.size]? = some (.cells #[.int .i64 kd, .string key, .string value, .string old] 42 (0, 0)) := by
    rw [hW1]; exact (Below.heap_alloc _ _ _ (by simp)).trans (heap_alloc_new w _)
  have hy : W1.heap[w.heap.size + 1]? = some (.cells #[.int .i64 qe, .bool qh, .bool qd, .string qv, .int .i64 qn, pr] 40 (0, 0)) := by
    rw [hW1]; have := heap_alloc_new (w.alloc (.cells #[.int .i64 kd, .string key, .string value, .string old] 42)) (.cells #[.int .i64 qe, .bool qh, .bool qd, .string qv, .int .i64 qn, pr] 40); simpa using this
  have hs1 : W1.heap.size = w.heap.size + 2 := by rw [hW1]; simp
  have HP := Lib.hid hP
  have HPR := Lib.hid hPR
  have B1 := Lib.hid hb1
  have HX := Lib.hid hx
  have HY := Lib.hid hy
  have HW := Lib.hid hW1
  have HS1 := Lib.hid hs1
  have HS := Lib.hid hs
  have HZ := Lib.hid hsz
  clear hx hy hb1 hs1 hW1 hs hsz hP hPR
  go_enter Tryz.func27, Tryz.ntmps27
  go_wp2_with fail
  rw [← HW.out]
  refine (do_ref W1 v m (HP.out.below B1.out) HS.out (by omega) kd key value old HZ.out).mono ?_
  have hlr2 : (doR m ⟨kd, key, value, old⟩).pairs.length < 1000000 := by
    unfold doR keyedR
    repeat' split
    all_goals first | omega | (simp; done) | (simp; omega)
  obtain ⟨r, hr⟩ : ∃ r, r = doR m ⟨kd, key, value, old⟩ := ⟨_, rfl⟩
  have hA : allowsB m ⟨kd, key, value, old⟩ ⟨qe, qh, qd, qv, qn, qp⟩ = (sameR r ⟨qe, qh, qd, qv, qn, qp⟩ || (sameR ⟨qe, qh, qd, qv, qn, qp⟩ { err := 10 } && decide (r.err = 0) && !decide (kd = 11))) := by unfold allowsB; rw [← hr]
  have hM : allowsM m ⟨kd, key, value, old⟩ ⟨qe, qh, qd, qv, qn, qp⟩ = if sameR r ⟨qe, qh, qd, qv, qn, qp⟩ = true then doM m ⟨kd, key, value, old⟩ else m := by unfold allowsM; rw [← hr]
  rw [← hr] at hlr2 ⊢
  have HA := Lib.hid hA
  have HM := Lib.hid hM
  clear hA hM hr
  rintro e w5 ⟨v5, p5, rfl, hp5, hq5, hb5⟩
  obtain ⟨A5, c5, e5, _⟩ := id hq5
  subst e5
  have hs5 : w.heap.size + 2 ≤ w5.heap.size := by have := hb5.size; rw [HS1.out] at this; exact this
  have hx5 := (hb5.block _ (by rw [HS1.out]; omega)).trans HX.out
  have hy5 := (hb5.block _ (by rw [HS1.out]; omega)).trans HY.out
  have B5 := Lib.hid (B1.out.trans (hb5.mono B1.out.size))
  have P5 := Lib.hid hp5
  have Q5 := Lib.hid hq5
  obtain ⟨W6, hW6⟩ : ∃ W, W = w5.alloc (.cells #[.int .i64 r.err, .bool r.had, .bool r.did, .string r.value, .int .i64 r.n, .slice A5 r.pairs.length c5] 40) := ⟨_, rfl⟩
  have hb6 : Below w5.heap.size w5 W6 := by rw [hW6]; exact (Below.refl _ _).alloc (Nat.le_refl _) _
  have hx6 := (hb6.block _ (by omega)).trans hx5
  have hy6 := (hb6.block _ (by omega)).trans hy5
  have hr6 : W6.heap[w5.heap.size]? = some (.cells #[.int .i64 r.err, .bool r.had, .bool r.did, .string r.value, .int .i64 r.n, .slice A5 r.pairs.length c5] 40 (0, 0)) := by rw [hW6]; exact heap_alloc_new w5 _
  have hs6 : W6.heap.size = w5.heap.size + 1 := by rw [hW6]; simp
  have t0 := cell_of hy6 0
  have t1 := cell_of hy6 1
  have t2 := cell_of hy6 2
  have t3 := cell_of hy6 3
  have t4 := cell_of hy6 4
  have t5 := cell_of hy6 5
  simp only [List.getElem?_toArray, List.getElem?_cons_succ, List.getElem?_cons_zero] at t0 t1 t2 t3 t4 t5
  rw [hW6] at t0 t1 t2 t3 t4 t5
  have HW6 := Lib.hid hW6
  have B6 := Lib.hid (B5.out.trans (hb6.mono B5.out.size))
  have P6 := Lib.hid (hp5.below hb6)
  have Q6 := Lib.hid (hq5.below hb6)
  have X6 := Lib.hid hx6
  have Y6 := Lib.hid hy6
  have R6 := Lib.hid hr6
  have S6 := Lib.hid hs6
  clear hp5 hq5 hb5 hx5 hy5 hW6 hb6 hx6 hy6 hr6 hs6
  unfold repC
  dsimp only
  go_wp2_with fail
  rw [← HW6.out]
  refine (sameR_ref W6 r ⟨qe, qh, qd, qv, qn, qp⟩ _ pr Q6.out (HPR.out.below B6.out) hlr2).mono ?_
  cases hsm : sameR r ⟨qe, qh, qd, qv, qn, qp⟩ with
  | true =>
    rintro e w7 ⟨rfl, hb7⟩
    have hp7 := P6.out.below hb7
    have hb7' := B6.out.trans (hb7.mono B6.out.size)
    have P7 := Lib.hid hp7
    have B7 := Lib.hid hb7'
    have SM := Lib.hid hsm
    clear hp7 hb7' hb7 hsm t0 t1 t2 t3 t4 t5
    go_wp2_with fail
    go_ret2
    rw [HA.out, HM.out, SM.out]
    exact ⟨_, rfl, P7.out, B7.out⟩
  | false =>
    rintro e w7 ⟨rfl, hb7⟩
    have hs7 := hb7.size
    rw [S6.out] at hs7
    have hx7 := (hb7.block _ (by rw [S6.out]; omega)).trans X6.out
    have hy7 := (hb7.block _ (by rw [S6.out]; omega)).trans Y6.out
    have hr7 := (hb7.block _ (by rw [S6.out]; omega)).trans R6.out
    have u0 := cell_of hy7 0
    have u1 := cell_of hy7 1
    have u2 := cell_of hy7 2
    have u3 := cell_of hy7 3
    have u4 := cell_of hy7 4
    have u5 := cell_of hy7 5
    simp only [List.getElem?_toArray, List.getElem?_cons_succ, List.getElem?_cons_zero] at u0 u1 u2 u3 u4 u5
    have B7 := Lib.hid (B6.out.trans (hb7.mono B6.out.size))
    have X7 := Lib.hid hx7
    have Y7 := Lib.hid hy7
    have R7 := Lib.hid hr7
    have SM := Lib.hid hsm
    clear hb7 hsm t0 t1 t2 t3 t4 t5
    obtain ⟨s9, hs9⟩ : ∃ b, b = sameR ⟨qe, qh, qd, qv, qn, qp⟩ { err := 10 } := ⟨_, rfl⟩
    have k0 := cell_of hx7 0
    have k1 := cell_of hr7 0
    simp only [List.getElem?_toArray, List.getElem?_cons_zero] at k0 k1
    have CS := Lib.hid (sameR_ref w7.drew ⟨qe, qh, qd, qv, qn, qp⟩ { err := 10 } pr (.slice none 0 0) (HPR.out.below B7.out.drew) (prs_nil _) (by show qp.length < 1000000; omega))
    rw [← hs9] at CS
    clear hx7 hy7 hr7
    cases s9 with
    | false =>
      have S9 := Lib.hid hs9.symm
      clear hs9
      go_wp2_with fail
      first | (go_region_with ((go_at_call 42; refine CS.out.mono ?_; rintro e w9 ⟨rfl, hb9⟩; have n0 := (hb9.cell (p := ⟨w.heap.size + 1, 0, none⟩) (show w.heap.size + 1 < w7.heap.size by omega)).trans u0; have n1 := (hb9.cell (p := ⟨w.heap.size + 1, 1, none⟩) (show w.heap.size + 1 < w7.heap.size by omega)).trans u1; have n2 := (hb9.cell (p := ⟨w.heap.size + 1, 2, none⟩) (show w.heap.size + 1 < w7.heap.size by omega)).trans u2; have n3 := (hb9.cell (p := ⟨w.heap.size + 1, 3, none⟩) (show w.heap.size + 1 < w7.heap.size by omega)).trans u3; have n4 := (hb9.cell (p := ⟨w.heap.size + 1, 4, none⟩) (show w.heap.size + 1 < w7.heap.size by omega)).trans u4; have n5 := (hb9.cell (p := ⟨w.heap.size + 1, 5, none⟩) (show w.heap.size + 1 < w7.heap.size by omega)).trans u5; have n6 := (hb9.cell (p := ⟨w5.heap.size, 0, none⟩) (show w5.heap.size < w7.heap.size by omega)).trans k1; have n7 := (hb9.cell (p := ⟨w.heap.size, 0, none⟩) (show w.heap.size < w7.heap.size by omega)).trans k0; have B9 := Lib.hid (B7.out.drew.trans (hb9.mono B7.out.size)); clear hb9))) | fail
      all_goals go_wp2_with fail
      all_goals go_ret2
      all_goals rw [HA.out, HM.out, SM.out, S9.out]
      all_goals exact ⟨v, by rfl, HP.out.below B9.out, B9.out⟩
    | true =>
      have S9 := Lib.hid hs9.symm
      clear hs9
      by_cases he : r.err = 0
      · have hb0 : (r.err == 0) = true := by rw [beq_iff_eq]; exact he
        have HE := Lib.hid he
        clear he
        by_cases hk : kd = 11
        · subst hk
          go_wp2_with fail
          first | (go_region_with ((go_at_call 42; refine CS.out.mono ?_; rintro e w9 ⟨rfl, hb9⟩; have n0 := (hb9.cell (p := ⟨w.heap.size + 1, 0, none⟩) (show w.heap.size + 1 < w7.heap.size by omega)).trans u0; have n1 := (hb9.cell (p := ⟨w.heap.size + 1, 1, none⟩) (show w.heap.size + 1 < w7.heap.size by omega)).trans u1; have n2 := (hb9.cell (p := ⟨w.heap.size + 1, 2, none⟩) (show w.heap.size + 1 < w7.heap.size by omega)).trans u2; have n3 := (hb9.cell (p := ⟨w.heap.size + 1, 3, none⟩) (show w.heap.size + 1 < w7.heap.size by omega)).trans u3; have n4 := (hb9.cell (p := ⟨w.heap.size + 1, 4, none⟩) (show w.heap.size + 1 < w7.heap.size by omega)).trans u4; have n5 := (hb9.cell (p := ⟨w.heap.size + 1, 5, none⟩) (show w.heap.size + 1 < w7.heap.size by omega)).trans u5; have n6 := (hb9.cell (p := ⟨w5.heap.size, 0, none⟩) (show w5.heap.size < w7.heap.size by omega)).trans k1; have n7 := (hb9.cell (p := ⟨w.heap.size, 0, none⟩) (show w.heap.size < w7.heap.size by omega)).trans k0; have B9 := Lib.hid (B7.out.drew.trans (hb9.mono B7.out.size)); clear hb9))) | fail
          all_goals go_wp2_with fail
          all_goals go_ret2
          all_goals rw [HA.out, HM.out, SM.out, S9.out]
          all_goals exact ⟨v, by rw [show decide (r.err = 0) = true from decide_eq_true HE.out]; rfl, HP.out.below B9.out, B9.out⟩
        · have hb1 : (kd == 11) = false := by rw [beq_eq_false_iff_ne]; exact hk
          have HK := Lib.hid hk
          clear hk
          go_wp2_with fail
          go_region_held3 (fun w' => w'.cell? ⟨w.heap.size + 1, 0, none⟩ = some (.int .i64 qe) ∧ w'.cell? ⟨w.heap.size + 1, 1, none⟩ = some (.bool qh) ∧ w'.cell? ⟨w.heap.size + 1, 2, none⟩ = some (.bool qd) ∧ w'.cell? ⟨w.heap.size + 1, 3, none⟩ = some (.string qv) ∧ w'.cell? ⟨w.heap.size + 1, 4, none⟩ = some (.int .i64 qn) ∧ w'.cell? ⟨w.heap.size + 1, 5, none⟩ = some (pr) ∧ w'.cell? ⟨w5.heap.size, 0, none⟩ = some (.int .i64 r.err) ∧ w'.cell? ⟨w.heap.size, 0, none⟩ = some (.int .i64 kd))
            (first | (go_split_ands; refine ⟨?_, ?_, ?_, ?_, ?_, ?_, ?_, ?_⟩ <;> with_reducible assumption) | go_keep)
            ((go_at_call 42; refine CS.out.mono ?_; rintro e w9 ⟨rfl, hb9⟩; have n0 := (hb9.cell (p := ⟨w.heap.size + 1, 0, none⟩) (show w.heap.size + 1 < w7.heap.size by omega)).trans u0; have n1 := (hb9.cell (p := ⟨w.heap.size + 1, 1, none⟩) (show w.heap.size + 1 < w7.heap.size by omega)).trans u1; have n2 := (hb9.cell (p := ⟨w.heap.size + 1, 2, none⟩) (show w.heap.size + 1 < w7.heap.size by omega)).trans u2; have n3 := (hb9.cell (p := ⟨w.heap.size + 1, 3, none⟩) (show w.heap.size + 1 < w7.heap.size by omega)).trans u3; have n4 := (hb9.cell (p := ⟨w.heap.size + 1, 4, none⟩) (show w.heap.size + 1 < w7.heap.size by omega)).trans u4; have n5 := (hb9.cell (p := ⟨w.heap.size + 1, 5, none⟩) (show w.heap.size + 1 < w7.heap.size by omega)).trans u5; have n6 := (hb9.cell (p := ⟨w5.heap.size, 0, none⟩) (show w5.heap.size < w7.heap.size by omega)).trans k1; have n7 := (hb9.cell (p := ⟨w.heap.size, 0, none⟩) (show w.heap.size < w7.heap.size by omega)).trans k0; have B9 := Lib.hid (B7.out.drew.trans (hb9.mono B7.out.size)); clear hb9))
          go_wp2_with fail
          go_ret2
          rw [HA.out, HM.out, SM.out, S9.out]
          exact ⟨_, by simp [HE.out, HK.out], HP.out.below B9.out, B9.out⟩
      · have hb0 : (r.err == 0) = false := by rw [beq_eq_false_iff_ne]; exact he
        have HE := Lib.hid he
        clear he
        go_wp2_with fail
        first | (go_region_with ((go_at_call 42; refine CS.out.mono ?_; rintro e w9 ⟨rfl, hb9⟩; have n0 := (hb9.cell (p := ⟨w.heap.size + 1, 0, none⟩) (show w.heap.size + 1 < w7.heap.size by omega)).trans u0; have n1 := (hb9.cell (p := ⟨w.heap.size + 1, 1, none⟩) (show w.heap.size + 1 < w7.heap.size by omega)).trans u1; have n2 := (hb9.cell (p := ⟨w.heap.size + 1, 2, none⟩) (show w.heap.size + 1 < w7.heap.size by omega)).trans u2; have n3 := (hb9.cell (p := ⟨w.heap.size + 1, 3, none⟩) (show w.heap.size + 1 < w7.heap.size by omega)).trans u3; have n4 := (hb9.cell (p := ⟨w.heap.size + 1, 4, none⟩) (show w.heap.size + 1 < w7.heap.size by omega)).trans u4; have n5 := (hb9.cell (p := ⟨w.heap.size + 1, 5, none⟩) (show w.heap.size + 1 < w7.heap.size by omega)).trans u5; have n6 := (hb9.cell (p := ⟨w5.heap.size, 0, none⟩) (show w5.heap.size < w7.heap.size by omega)).trans k1; have n7 := (hb9.cell (p := ⟨w.heap.size, 0, none⟩) (show w.heap.size < w7.heap.size by omega)).trans k0; have B9 := Lib.hid (B7.out.drew.trans (hb9.mono B7.out.size)); clear hb9))) | fail
        all_goals go_wp2_with fail
        all_goals go_ret2
        all_goals rw [HA.out, HM.out, SM.out, S9.out]
        all_goals exact ⟨v, by rw [show decide (r.err = 0) = false from decide_eq_false HE.out]; rfl, HP.out.below B9.out, B9.out⟩
end Go.Proofs.YtdhgacionopghaaGreatDoor.Sp
