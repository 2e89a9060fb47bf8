/- order: spec.Do again: what it hands back is a row of its own. -/
import Derived.Test.YtdhgacionopghaaGreatDoorOrdRef
namespace Go.Proofs.YtdhgacionopghaaGreatDoor.Od
open Go.RowKit Go.Shelf Dc DcM DcW DcI DcR DcL Sp
set_option linter.unusedVariables false
set_option maxHeartbeats 16000000 in
set_option maxRecDepth 100000 in
theorem do_owns (w : World) (v : Value) (m : List Pr) (hP : Prs w v m) (hs : Sorted m) (hl : m.length < 99999) (kd : Int) (key value old : ByteArray) (hsz : key.size ≤ maxLen ∧ value.size ≤ maxLen) :
    Calls Tryz.prog 44 #[v, .agg #[.int .i64 kd, .string key, .string value, .string old]] w fun e w' => ∃ v' pv,
      e = .returned (.tuple #[v', .agg (repC (doR m ⟨kd, key, value, old⟩) pv)]) ∧ w'.ownsRow w.heap.size 74 2 v' (doM m ⟨kd, key, value, old⟩).length (cellsP (doM m ⟨kd, key, value, old⟩)) ∧ Prs w' pv (doR m ⟨kd, key, value, old⟩).pairs ∧ Below w.heap.size w w' := by
  obtain ⟨W1, hW1⟩ : ∃ W, W = (w.alloc (.cells #[.int .i64 kd, .string key, .string value, .string old] 42)).alloc (.cells #[.int .i64 0, .bool false, .bool false, .string ⟨#[]⟩, .int .i64 0, .slice none 0 0] 40) := ⟨_, rfl⟩
  have hb1 : Below w.heap.size w W1 := by rw [hW1]; exact ((Below.refl _ _).alloc (Nat.le_refl _) _).alloc (by simp) _
  have hx : W1.heap[w.heap.size]? = some (.cells #[.int .i64 kd, .string key, .string value, .string old] 42 (0, 0)) := by
    rw [hW1]; exact (Below.heap_alloc _ _ _ (by simp)).trans (heap_alloc_new w _)
  have hy : W1.heap[w.heap.size + 1]? = some (.cells #[.int .i64 0, .bool false, .bool false, .string ⟨#[]⟩, .int .i64 0, .slice none 0 0] 40 (0, 0)) := by
    rw [hW1]; have := heap_alloc_new (w.alloc (.cells #[.int .i64 kd, .string key, .string value, .string old] 42)) (.cells #[.int .i64 0, .bool false, .bool false, .string ⟨#[]⟩, .int .i64 0, .slice none 0 0] 40); simpa using this
  have hs1 : W1.heap.size = w.heap.size + 2 := by rw [hW1]; simp
  have HP := Lib.hid hP
  obtain ⟨A, cap, rfl, _, hc⟩ := hP
  have HC := Lib.hid hc
  have B1 := Lib.hid hb1
  have HX := Lib.hid hx
  have HY := Lib.hid hy
  have HW := Lib.hid hW1
  have HS1 := Lib.hid hs1
  have HS := Lib.hid hs
  have HZ := Lib.hid hsz
  clear hx hy hb1 hs1 hW1 hs hc hsz
  go_enter Tryz.func44, Tryz.ntmps44
  go_wp2_with fail
  rw [← HW.out]
  refine (new_m w.heap.size W1 B1.out.size).mono ?_
  rintro e w2 ⟨rfl, hm2, hk2⟩
  have HM2 := Lib.hid hm2
  have K2 := Lib.hid hk2
  clear hm2 hk2
  go_wp2_with fail
  go_loopw [13] (fun i wr => ∃ k : Nat, k ≤ m.length ∧ i = .int .i64 k ∧ MapAt w.heap.size wr W1.heap.size (m.take k) ∧ Kept w.heap.size W1 wr) (fun i _ => m.length - (intOf i).toNat)
  case atStart => exact ⟨0, Nat.zero_le _, rfl, HM2.out, K2.out⟩
  case round =>
    obtain ⟨k, hk, rfl, hm, hkp⟩ := hrel
    by_cases hp : k < m.length
    · obtain ⟨p, hp2⟩ : ∃ p, m[k]? = some p := ⟨_, List.getElem?_eq_getElem hp⟩
      obtain ⟨b, o, rfl, c1, c2⟩ := HC.out k p hp2
      have hbl := World.block_lt_of_cell? w _ c1
      have hB := B1.out.trans hkp.below
      have d1 := (hB.cell (p := ⟨b, o + k * 2, none⟩) hbl).trans c1
      have d2 := (hB.cell (p := ⟨b, o + k * 2 + 1, none⟩) hbl).trans c2
      have hb0 : Below wr.heap.size wr (wr.alloc (.cells #[.string p.1, .string p.2] 74)) := (Below.refl _ _).alloc (Nat.le_refl _) _
      have HM := Lib.hid (hm.below hb0)
      have HK := Lib.hid (hkp.trans (Kept.of_below hb0 hB.size))
      have HPT := Lib.hid (put_nil_take HS.out hp2)
      clear hm hkp hp2 c1 c2 hB hb0
      go_wp2_with fail
      refine (put_m HM.out (by rw [List.length_take]; omega) p.1 p.2).mono ?_
      rintro e w5 ⟨rfl, hm5, hk5⟩
      rw [HPT.out] at hm5
      have HM5 := Lib.hid hm5
      have K5 := Lib.hid (HK.out.trans hk5)
      clear hm5 hk5
      go_wp2_with fail
      exact ⟨⟨k + 1, by omega, by go_num, HM5.out, K5.out⟩, by show m.length - ((k : Int) + 1).toNat < m.length - (k : Int).toNat; omega⟩
    · have hkk : k = m.length := by omega
      subst hkk
      rw [List.take_length] at hm
      have hx2 := (hkp.other _ _ _ _ HX.out (by decide) (by decide)).trans HX.out
      have hy2 := (hkp.other _ _ _ _ HY.out (by decide) (by decide)).trans HY.out
      have hs2 : w.heap.size + 2 ≤ wr.heap.size := by have := hkp.size; rw [HS1.out] at this; exact this
      have HM := Lib.hid hm
      have KB := Lib.hid (B1.out.trans hkp.below)
      have HX2 := Lib.hid hx2
      have HY2 := Lib.hid hy2
      clear hm hkp
      have e0 := cell_of hx2 0
      have e1 := cell_of hx2 1
      have e2 := cell_of hx2 2
      have e3 := cell_of hx2 3
      have q0 := cell_of hy2 0
      have z0 := frozen_of hy2 0
      have q1 := cell_of hy2 1
      have z1 := frozen_of hy2 1
      have q2 := cell_of hy2 2
      have z2 := frozen_of hy2 2
      have q3 := cell_of hy2 3
      have z3 := frozen_of hy2 3
      have q4 := cell_of hy2 4
      have z4 := frozen_of hy2 4
      have q5 := cell_of hy2 5
      have z5 := frozen_of hy2 5
      simp only [List.getElem?_toArray, List.getElem?_cons_succ, List.getElem?_cons_zero] at e0 e1 e2 e3 q0 q1 q2 q3 q4 q5
      clear hx2 hy2
      by_cases hk0 : kd < 1 ∨ 11 < kd
      · have HD := Lib.hid (show doR m ⟨kd, key, value, old⟩ = { err := 2 } ∧ doM m ⟨kd, key, value, old⟩ = m by unfold doR doM; rw [if_pos hk0, if_pos hk0]; exact ⟨rfl, rfl⟩)
        rcases hk0 with hk0 | hk0
        · go_wp2_with fail
          refine (clone_any _ _ m (HP.out.below KB.out) (by omega)).mono ?_
          rintro e w5 ⟨v5, rfl, hp5, hb5⟩
          have hy5 := (hb5.block _ (by omega)).trans HY2.out
          have t0 := cell_of hy5 0
          have t1 := cell_of hy5 1
          have t2 := cell_of hy5 2
          have t3 := cell_of hy5 3
          have t4 := cell_of hy5 4
          have t5 := cell_of hy5 5
          have v0 := frozen_of hy5 0
          have v1 := frozen_of hy5 1
          have v2 := frozen_of hy5 2
          have v3 := frozen_of hy5 3
          have v4 := frozen_of hy5 4
          have v5 := frozen_of hy5 5
          simp only [List.getElem?_toArray, List.getElem?_cons_succ, List.getElem?_cons_zero] at t0 t1 t2 t3 t4 t5
          have P5 := Lib.hid hp5
          have B5 := Lib.hid (KB.out.trans (hb5.mono KB.out.size))
          have HY5 := Lib.hid hy5
          clear hp5 hb5 hy5
          go_wp2_with fail
          refine bodyPost_ret (results_tmp_cell rfl _ _ (w.heap.size + 1) _ _ _ _ rfl (store6 _ _ _ _ _ _ HY5.out) Tryz.underlying40 rfl infoRep) rfl ?_
          rw [HD.out.1, HD.out.2]
          exact ⟨_, _, rfl, row_base (owns_set6 P5.out HY5.out (by decide) _ _ _ _ _ _) (KB.out.size), prs_nil _, below6 B5.out (by omega) _ _ _ _ _ _⟩
        · have hk9 : ¬ kd < 1 := by omega
          go_wp2_with fail
          refine (clone_any _ _ m (HP.out.below KB.out) (by omega)).mono ?_
          rintro e w5 ⟨v5, rfl, hp5, hb5⟩
          have hy5 := (hb5.block _ (by omega)).trans HY2.out
          have t0 := cell_of hy5 0
          have t1 := cell_of hy5 1
          have t2 := cell_of hy5 2
          have t3 := cell_of hy5 3
          have t4 := cell_of hy5 4
          have t5 := cell_of hy5 5
          have v0 := frozen_of hy5 0
          have v1 := frozen_of hy5 1
          have v2 := frozen_of hy5 2
          have v3 := frozen_of hy5 3
          have v4 := frozen_of hy5 4
          have v5 := frozen_of hy5 5
          simp only [List.getElem?_toArray, List.getElem?_cons_succ, List.getElem?_cons_zero] at t0 t1 t2 t3 t4 t5
          have P5 := Lib.hid hp5
          have B5 := Lib.hid (KB.out.trans (hb5.mono KB.out.size))
          have HY5 := Lib.hid hy5
          clear hp5 hb5 hy5
          go_wp2_with fail
          refine bodyPost_ret (results_tmp_cell rfl _ _ (w.heap.size + 1) _ _ _ _ rfl (store6 _ _ _ _ _ _ HY5.out) Tryz.underlying40 rfl infoRep) rfl ?_
          rw [HD.out.1, HD.out.2]
          exact ⟨_, _, rfl, row_base (owns_set6 P5.out HY5.out (by decide) _ _ _ _ _ _) (KB.out.size), prs_nil _, below6 B5.out (by omega) _ _ _ _ _ _⟩
      · by_cases hlg : long ⟨kd, key, value, old⟩ = true
        · have HD := Lib.hid (show doR m ⟨kd, key, value, old⟩ = { err := 11 } ∧ doM m ⟨kd, key, value, old⟩ = m by unfold doR doM; rw [if_neg hk0, if_neg hk0, if_pos hlg, if_pos hlg]; exact ⟨rfl, rfl⟩)
          have hk8 : 1 ≤ kd := by omega
          have hk9 : kd ≤ 11 := by omega
          go_wp2_with fail
          refine (long_spec wr kd key value old HZ.out.1 HZ.out.2).mono ?_
          rw [hlg]
          rintro e w4 ⟨rfl, hb4⟩
          have hy4 := (hb4.block _ (by omega)).trans HY2.out
          have hs4 := hb4.size
          have HY4 := Lib.hid hy4
          have B4 := Lib.hid (KB.out.trans (hb4.mono KB.out.size))
          clear hb4 hy4
          go_wp2_with fail
          refine (clone_any _ _ m (HP.out.below B4.out) (by omega)).mono ?_
          rintro e w5 ⟨v5, rfl, hp5, hb5⟩
          have hy5 := (hb5.block _ (by omega)).trans HY4.out
          have t0 := cell_of hy5 0
          have t1 := cell_of hy5 1
          have t2 := cell_of hy5 2
          have t3 := cell_of hy5 3
          have t4 := cell_of hy5 4
          have t5 := cell_of hy5 5
          have v0 := frozen_of hy5 0
          have v1 := frozen_of hy5 1
          have v2 := frozen_of hy5 2
          have v3 := frozen_of hy5 3
          have v4 := frozen_of hy5 4
          have v5 := frozen_of hy5 5
          simp only [List.getElem?_toArray, List.getElem?_cons_succ, List.getElem?_cons_zero] at t0 t1 t2 t3 t4 t5
          have P5 := Lib.hid hp5
          have B5 := Lib.hid (B4.out.trans (hb5.mono B4.out.size))
          have HY5 := Lib.hid hy5
          clear hp5 hb5 hy5
          go_wp2_with fail
          refine bodyPost_ret (results_tmp_cell rfl _ _ (w.heap.size + 1) _ _ _ _ rfl (store6 _ _ _ _ _ _ HY5.out) Tryz.underlying40 rfl infoRep) rfl ?_
          rw [HD.out.1, HD.out.2]
          exact ⟨_, _, rfl, row_base (owns_set6 P5.out HY5.out (by decide) _ _ _ _ _ _) (B4.out.size), prs_nil _, below6 B5.out (by omega) _ _ _ _ _ _⟩
        · skip
          have HD0 := Lib.hid (show doR m ⟨kd, key, value, old⟩ = (if kd = 8 then { n := m.length } else if kd = 9 then { did := true } else if kd = 10 then { pairs := m } else if kd = 11 then {} else keyedR m ⟨kd, key, value, old⟩) ∧ doM m ⟨kd, key, value, old⟩ = (if kd = 8 then m else if kd = 9 then [] else if kd = 10 then m else if kd = 11 then m else keyedM m ⟨kd, key, value, old⟩) by unfold doR doM; rw [if_neg hk0, if_neg hk0, if_neg hlg, if_neg hlg]; exact ⟨rfl, rfl⟩)
          have hk8 : 1 ≤ kd := by omega
          have hk9 : kd ≤ 11 := by omega
          have hlf : long ⟨kd, key, value, old⟩ = false := by simpa using hlg
          go_wp2_with fail
          refine (long_spec wr kd key value old HZ.out.1 HZ.out.2).mono ?_
          rw [hlf]
          rintro e w4 ⟨rfl, hb4⟩
          have hs4 : w.heap.size + 2 ≤ w4.heap.size := Nat.le_trans hs2 hb4.size
          have hx4 := (hb4.block _ (by omega)).trans HX2.out
          have hy4 := (hb4.block _ (by omega)).trans HY2.out
          have HX4 := Lib.hid hx4
          have HY4 := Lib.hid hy4
          have B4 := Lib.hid (KB.out.trans (hb4.mono KB.out.size))
          have HM4 := Lib.hid (HM.out.below hb4)
          have hx5 : (w4.alloc (.cells #[.int .i64 0, .bool false, .bool false, .string ⟨#[]⟩, .int .i64 0, .slice none 0 0] 40)).heap[w.heap.size]? = some (.cells #[.int .i64 kd, .string key, .string value, .string old] 42 (0, 0)) := (Below.heap_alloc _ _ _ (by omega)).trans hx4
          have f0 := cell_of hx5 0
          have f1 := cell_of hx5 1
          have f2 := cell_of hx5 2
          have f3 := cell_of hx5 3
          simp only [List.getElem?_toArray, List.getElem?_cons_succ, List.getElem?_cons_zero] at f0 f1 f2 f3
          clear hb4 hx4 hy4 hx5 hlg hlf e0 e1 e2 e3 q0 q1 q2 q3 q4 q5 z0 z1 z2 z3 z4 z5
          by_cases h8 : kd = 8
          · subst h8
            go_wp2_with fail
            refine (len_m (HM4.out.below ((Below.refl _ _).alloc (Nat.le_refl _) _))).mono ?_
            rintro e w6 ⟨rfl, rfl⟩
            go_wp2_with fail
            obtain ⟨X, hX⟩ : ∃ X, X = w4.alloc (.cells #[.int .i64 0, .bool false, .bool false, .string ⟨#[]⟩, .int .i64 m.length, .slice none 0 0] 40) := ⟨_, rfl⟩
            have hXR : X.heap[w4.heap.size]? = some (.cells #[.int .i64 0, .bool false, .bool false, .string ⟨#[]⟩, .int .i64 m.length, .slice none 0 0] 40 (0, 0)) := by rw [hX]; exact heap_alloc_new w4 _
            have hXY : X.heap[w.heap.size + 1]? = some (.cells #[.int .i64 0, .bool false, .bool false, .string ⟨#[]⟩, .int .i64 0, .slice none 0 0] 40 (0, 0)) := by rw [hX]; exact (Below.heap_alloc _ _ _ (by omega)).trans HY4.out
            have hXM : MapAt w.heap.size X W1.heap.size m := by rw [hX]; exact HM4.out.below ((Below.refl _ _).alloc (Nat.le_refl _) _)
            have hXB : Below w.heap.size w X := by rw [hX]; exact B4.out.alloc (by omega) _
            rw [← hX]
            have s0 := cell_of hXR 0
            have s1 := cell_of hXR 1
            have s2 := cell_of hXR 2
            have s3 := cell_of hXR 3
            have s4 := cell_of hXR 4
            have s5 := cell_of hXR 5
            simp only [List.getElem?_toArray, List.getElem?_cons_succ, List.getElem?_cons_zero] at s0 s1 s2 s3 s4 s5
            have hXl : w4.heap.size < X.heap.size := (Array.getElem?_eq_some_iff.1 hXR).1
            have HXR := Lib.hid hXR
            have HXY := Lib.hid hXY
            have HXM := Lib.hid (hXM.below (Below.refl _ _).drew)
            have HXB := Lib.hid hXB
            have HXE := Lib.hid hX
            clear hXR hXY hXM hXB hX f0 f1 f2 f3
            go_region_held3 (fun w' => w'.cell? ⟨w4.heap.size, 0, none⟩ = some (.int .i64 0) ∧ w'.cell? ⟨w4.heap.size, 1, none⟩ = some (.bool false) ∧ w'.cell? ⟨w4.heap.size, 2, none⟩ = some (.bool false) ∧ w'.cell? ⟨w4.heap.size, 3, none⟩ = some (.string ⟨#[]⟩) ∧ w'.cell? ⟨w4.heap.size, 4, none⟩ = some (.int .i64 m.length) ∧ w'.cell? ⟨w4.heap.size, 5, none⟩ = some (.slice none 0 0))
              (first | (go_split_ands; refine ⟨?_, ?_, ?_, ?_, ?_, ?_⟩ <;> with_reducible assumption) | (go_split_ands; refine ⟨?_, ?_, ?_, ?_, ?_, ?_⟩ <;> (rw [cell6 _ _ _ _ _ _ (by omega)]; with_reducible assumption)) | go_keep)
              ((go_at_call 60; refine (pairs_m HXM.out (by omega)).mono ?_; rintro e w7 ⟨v7, rfl, hp7, hb7⟩; have hr7 := (hb7.block _ hXl).trans HXR.out; have hy7 := (hb7.block (w.heap.size + 1) (show w.heap.size + 1 < X.heap.size by omega)).trans HXY.out; have u0 := cell_of hr7 0; have u1 := cell_of hr7 1; have u2 := cell_of hr7 2; have u3 := cell_of hr7 3; have u4 := cell_of hr7 4; have u5 := cell_of hr7 5; have t0 := cell_of hy7 0; have t1 := cell_of hy7 1; have t2 := cell_of hy7 2; have t3 := cell_of hy7 3; have t4 := cell_of hy7 4; have t5 := cell_of hy7 5; have v0 := frozen_of hy7 0; have v1 := frozen_of hy7 1; have v2 := frozen_of hy7 2; have v3 := frozen_of hy7 3; have v4 := frozen_of hy7 4; have v5 := frozen_of hy7 5; simp only [List.getElem?_toArray, List.getElem?_cons_succ, List.getElem?_cons_zero] at u0 u1 u2 u3 u4 u5 t0 t1 t2 t3 t4 t5; have R7 := Lib.hid hp7; have HY7 := Lib.hid hy7; have B7 := Lib.hid (HXB.out.trans ((Below.refl _ _).drew.trans (hb7.mono HXB.out.size))); have H7 := Lib.hid hb7; clear hr7 hy7 hb7 hp7))
            go_wp2_with fail
            refine bodyPost_ret (results_tmp_cell rfl _ _ (w.heap.size + 1) _ _ _ _ rfl (store6 _ _ _ _ _ _ HY7.out) Tryz.underlying40 rfl infoRep) rfl ?_
            have hD := HD0.out
            simp only [if_true] at hD
            rw [hD.1, hD.2]
            exact ⟨_, _, rfl, row_base (owns_set6 R7.out HY7.out (by decide) _ _ _ _ _ _) HXB.out.size, prs_nil _, below6 B7.out (by omega) _ _ _ _ _ _⟩
          by_cases h11 : kd = 11
          · subst h11
            go_wp2_with fail
            obtain ⟨X, hX⟩ : ∃ X, X = w4.alloc (.cells #[.int .i64 0, .bool false, .bool false, .string ⟨#[]⟩, .int .i64 0, .slice none 0 0] 40) := ⟨_, rfl⟩
            have hXR : X.heap[w4.heap.size]? = some (.cells #[.int .i64 0, .bool false, .bool false, .string ⟨#[]⟩, .int .i64 0, .slice none 0 0] 40 (0, 0)) := by rw [hX]; exact heap_alloc_new w4 _
            have hXY : X.heap[w.heap.size + 1]? = some (.cells #[.int .i64 0, .bool false, .bool false, .string ⟨#[]⟩, .int .i64 0, .slice none 0 0] 40 (0, 0)) := by rw [hX]; exact (Below.heap_alloc _ _ _ (by omega)).trans HY4.out
            have hXM : MapAt w.heap.size X W1.heap.size m := by rw [hX]; exact HM4.out.below ((Below.refl _ _).alloc (Nat.le_refl _) _)
            have hXB : Below w.heap.size w X := by rw [hX]; exact B4.out.alloc (by omega) _
            rw [← hX]
            have s0 := cell_of hXR 0
            have s1 := cell_of hXR 1
            have s2 := cell_of hXR 2
            have s3 := cell_of hXR 3
            have s4 := cell_of hXR 4
            have s5 := cell_of hXR 5
            simp only [List.getElem?_toArray, List.getElem?_cons_succ, List.getElem?_cons_zero] at s0 s1 s2 s3 s4 s5
            have hXl : w4.heap.size < X.heap.size := (Array.getElem?_eq_some_iff.1 hXR).1
            have HXR := Lib.hid hXR
            have HXY := Lib.hid hXY
            have HXM := Lib.hid (hXM.below (Below.refl _ _).drew)
            have HXB := Lib.hid hXB
            have HXE := Lib.hid hX
            clear hXR hXY hXM hXB hX f0 f1 f2 f3
            go_region_held3 (fun w' => w'.cell? ⟨w4.heap.size, 0, none⟩ = some (.int .i64 0) ∧ w'.cell? ⟨w4.heap.size, 1, none⟩ = some (.bool false) ∧ w'.cell? ⟨w4.heap.size, 2, none⟩ = some (.bool false) ∧ w'.cell? ⟨w4.heap.size, 3, none⟩ = some (.string ⟨#[]⟩) ∧ w'.cell? ⟨w4.heap.size, 4, none⟩ = some (.int .i64 0) ∧ w'.cell? ⟨w4.heap.size, 5, none⟩ = some (.slice none 0 0))
              (first | (go_split_ands; refine ⟨?_, ?_, ?_, ?_, ?_, ?_⟩ <;> with_reducible assumption) | (go_split_ands; refine ⟨?_, ?_, ?_, ?_, ?_, ?_⟩ <;> (rw [cell6 _ _ _ _ _ _ (by omega)]; with_reducible assumption)) | go_keep)
              ((go_at_call 60; refine (pairs_m HXM.out (by omega)).mono ?_; rintro e w7 ⟨v7, rfl, hp7, hb7⟩; have hr7 := (hb7.block _ hXl).trans HXR.out; have hy7 := (hb7.block (w.heap.size + 1) (show w.heap.size + 1 < X.heap.size by omega)).trans HXY.out; have u0 := cell_of hr7 0; have u1 := cell_of hr7 1; have u2 := cell_of hr7 2; have u3 := cell_of hr7 3; have u4 := cell_of hr7 4; have u5 := cell_of hr7 5; have t0 := cell_of hy7 0; have t1 := cell_of hy7 1; have t2 := cell_of hy7 2; have t3 := cell_of hy7 3; have t4 := cell_of hy7 4; have t5 := cell_of hy7 5; have v0 := frozen_of hy7 0; have v1 := frozen_of hy7 1; have v2 := frozen_of hy7 2; have v3 := frozen_of hy7 3; have v4 := frozen_of hy7 4; have v5 := frozen_of hy7 5; simp only [List.getElem?_toArray, List.getElem?_cons_succ, List.getElem?_cons_zero] at u0 u1 u2 u3 u4 u5 t0 t1 t2 t3 t4 t5; have R7 := Lib.hid hp7; have HY7 := Lib.hid hy7; have B7 := Lib.hid (HXB.out.trans ((Below.refl _ _).drew.trans (hb7.mono HXB.out.size))); have H7 := Lib.hid hb7; clear hr7 hy7 hb7 hp7))
            go_wp2_with fail
            refine bodyPost_ret (results_tmp_cell rfl _ _ (w.heap.size + 1) _ _ _ _ rfl (store6 _ _ _ _ _ _ HY7.out) Tryz.underlying40 rfl infoRep) rfl ?_
            have hD := HD0.out
            simp only [show ¬ ((11 : Int) = 8) by decide, show ¬ ((11 : Int) = 9) by decide, show ¬ ((11 : Int) = 10) by decide, if_true, if_false] at hD
            rw [hD.1, hD.2]
            exact ⟨_, _, rfl, row_base (owns_set6 R7.out HY7.out (by decide) _ _ _ _ _ _) HXB.out.size, prs_nil _, below6 B7.out (by omega) _ _ _ _ _ _⟩
          by_cases h9 : kd = 9
          · subst h9
            go_wp2_with fail
            have hn4 : w.heap.size ≤ (w4.alloc (.cells #[.int .i64 0, .bool false, .bool false, .string ⟨#[]⟩, .int .i64 0, .slice none 0 0] 40)).heap.size := by simp; omega
            refine (new_m w.heap.size _ hn4).mono ?_
            rintro e w6 ⟨rfl, hm6, hk6⟩
            rw [World.size_alloc] at hm6 ⊢
            have hr6 := (hk6.other _ _ _ _ (heap_alloc_new w4 _) (by decide) (by decide)).trans (heap_alloc_new w4 _)
            have hy6 := (hk6.other _ _ _ _ ((Below.heap_alloc _ _ _ (by omega)).trans HY4.out) (by decide) (by decide)).trans ((Below.heap_alloc _ _ _ (by omega)).trans HY4.out)
            have hx6 := (hk6.other _ _ _ _ ((Below.heap_alloc _ _ _ (by omega)).trans HX4.out) (by decide) (by decide)).trans ((Below.heap_alloc _ _ _ (by omega)).trans HX4.out)
            have y2 := cell_of hr6 2
            have x2 := frozen_of hr6 2
            simp only [List.getElem?_toArray, List.getElem?_cons_succ, List.getElem?_cons_zero] at y2
            have B6 := Lib.hid ((B4.out.alloc (by omega) _).trans hk6.below)
            have HR6 := Lib.hid hr6
            have HY6 := Lib.hid hy6
            have HM6 := Lib.hid hm6
            clear hr6 hy6 hx6 hm6 hk6 hn4
            go_wp2_with fail
            obtain ⟨X, hX⟩ : ∃ X, X = w6.setCell ⟨w4.heap.size, 2, none⟩ (.bool true) := ⟨_, rfl⟩
            have hXR : X.heap[w4.heap.size]? = some (.cells #[.int .i64 0, .bool false, .bool true, .string ⟨#[]⟩, .int .i64 0, .slice none 0 0] 40 (0, 0)) := by rw [hX]; exact (by have := heap_setAt 2 (.bool true) HR6.out; simpa using this)
            have hXY : X.heap[w.heap.size + 1]? = some (.cells #[.int .i64 0, .bool false, .bool false, .string ⟨#[]⟩, .int .i64 0, .slice none 0 0] 40 (0, 0)) := by rw [hX]; exact (heap_setNe _ _ (by omega)).trans HY6.out
            have hXM : MapAt w.heap.size X (w4.heap.size + 1) [] := by rw [hX]; exact mapAt_set1 HM6.out HR6.out (by decide) (by decide) _ _
            have hXB : Below w.heap.size w X := by rw [hX]; exact below_set B6.out (by omega) _ _
            rw [← hX]
            have s0 := cell_of hXR 0
            have s1 := cell_of hXR 1
            have s2 := cell_of hXR 2
            have s3 := cell_of hXR 3
            have s4 := cell_of hXR 4
            have s5 := cell_of hXR 5
            simp only [List.getElem?_toArray, List.getElem?_cons_succ, List.getElem?_cons_zero] at s0 s1 s2 s3 s4 s5
            have hXl : w4.heap.size < X.heap.size := (Array.getElem?_eq_some_iff.1 hXR).1
            have HXR := Lib.hid hXR
            have HXY := Lib.hid hXY
            have HXM := Lib.hid (hXM.below (Below.refl _ _).drew)
            have HXB := Lib.hid hXB
            have HXE := Lib.hid hX
            clear hXR hXY hXM hXB hX f0 f1 f2 f3
            go_region_held3 (fun w' => w'.cell? ⟨w4.heap.size, 0, none⟩ = some (.int .i64 0) ∧ w'.cell? ⟨w4.heap.size, 1, none⟩ = some (.bool false) ∧ w'.cell? ⟨w4.heap.size, 2, none⟩ = some (.bool true) ∧ w'.cell? ⟨w4.heap.size, 3, none⟩ = some (.string ⟨#[]⟩) ∧ w'.cell? ⟨w4.heap.size, 4, none⟩ = some (.int .i64 0) ∧ w'.cell? ⟨w4.heap.size, 5, none⟩ = some (.slice none 0 0))
              (first | (go_split_ands; refine ⟨?_, ?_, ?_, ?_, ?_, ?_⟩ <;> with_reducible assumption) | (go_split_ands; refine ⟨?_, ?_, ?_, ?_, ?_, ?_⟩ <;> (rw [cell6 _ _ _ _ _ _ (by omega)]; with_reducible assumption)) | go_keep)
              ((go_at_call 60; refine (pairs_m HXM.out (by simp)).mono ?_; rintro e w7 ⟨v7, rfl, hp7, hb7⟩; have hr7 := (hb7.block _ hXl).trans HXR.out; have hy7 := (hb7.block (w.heap.size + 1) (show w.heap.size + 1 < X.heap.size by omega)).trans HXY.out; have u0 := cell_of hr7 0; have u1 := cell_of hr7 1; have u2 := cell_of hr7 2; have u3 := cell_of hr7 3; have u4 := cell_of hr7 4; have u5 := cell_of hr7 5; have t0 := cell_of hy7 0; have t1 := cell_of hy7 1; have t2 := cell_of hy7 2; have t3 := cell_of hy7 3; have t4 := cell_of hy7 4; have t5 := cell_of hy7 5; have v0 := frozen_of hy7 0; have v1 := frozen_of hy7 1; have v2 := frozen_of hy7 2; have v3 := frozen_of hy7 3; have v4 := frozen_of hy7 4; have v5 := frozen_of hy7 5; simp only [List.getElem?_toArray, List.getElem?_cons_succ, List.getElem?_cons_zero] at u0 u1 u2 u3 u4 u5 t0 t1 t2 t3 t4 t5; have R7 := Lib.hid hp7; have HY7 := Lib.hid hy7; have B7 := Lib.hid (HXB.out.trans ((Below.refl _ _).drew.trans (hb7.mono HXB.out.size))); have H7 := Lib.hid hb7; clear hr7 hy7 hb7 hp7))
            go_wp2_with fail
            refine bodyPost_ret (results_tmp_cell rfl _ _ (w.heap.size + 1) _ _ _ _ rfl (store6 _ _ _ _ _ _ HY7.out) Tryz.underlying40 rfl infoRep) rfl ?_
            have hD := HD0.out
            simp only [show ¬ ((9 : Int) = 8) by decide, if_true, if_false] at hD
            rw [hD.1, hD.2]
            exact ⟨_, _, rfl, row_base (owns_set6 R7.out HY7.out (by decide) _ _ _ _ _ _) HXB.out.size, prs_nil _, below6 B7.out (by omega) _ _ _ _ _ _⟩
          by_cases h10 : kd = 10
          · subst h10
            go_wp2_with fail
            have hb0 : Below w4.heap.size w4 (w4.alloc (.cells #[.int .i64 0, .bool false, .bool false, .string ⟨#[]⟩, .int .i64 0, .slice none 0 0] 40)) := (Below.refl _ _).alloc (Nat.le_refl _) _
            refine (pairs_m (HM4.out.below hb0) (by omega)).mono ?_
            rintro e w6 ⟨v6, rfl, hp6, hb6⟩
            obtain ⟨A6, cap6, rfl⟩ := owns_shape hp6
            have hr6 := (hb6.block w4.heap.size (by simp)).trans (heap_alloc_new w4 (.cells #[.int .i64 0, .bool false, .bool false, .string ⟨#[]⟩, .int .i64 0, .slice none 0 0] 40))
            have hy6 := (hb6.block (w.heap.size + 1) (by simp; omega)).trans ((Below.heap_alloc _ _ _ (by omega)).trans HY4.out)
            have y5 := cell_of hr6 5
            have x5 := frozen_of hr6 5
            simp only [List.getElem?_toArray, List.getElem?_cons_succ, List.getElem?_cons_zero] at y5
            have hn4 : w.heap.size ≤ w4.heap.size := by omega
            have B6 := Lib.hid ((B4.out.alloc (by omega) _).trans (hb6.mono (by simp; omega)))
            have HR6 := Lib.hid hr6
            have HY6 := Lib.hid hy6
            have HM6 := Lib.hid ((HM4.out.below hb0).below hb6)
            have HP6 := Lib.hid hp6
            clear hr6 hy6 hb6 hp6 hn4 hb0
            go_wp2_with fail
            obtain ⟨X, hX⟩ : ∃ X, X = w6.setCell ⟨w4.heap.size, 5, none⟩ (.slice A6 m.length cap6) := ⟨_, rfl⟩
            have hXR : X.heap[w4.heap.size]? = some (.cells #[.int .i64 0, .bool false, .bool false, .string ⟨#[]⟩, .int .i64 0, .slice A6 m.length cap6] 40 (0, 0)) := by rw [hX]; exact (by have := heap_setAt 5 (.slice A6 m.length cap6) HR6.out; simpa using this)
            have hXY : X.heap[w.heap.size + 1]? = some (.cells #[.int .i64 0, .bool false, .bool false, .string ⟨#[]⟩, .int .i64 0, .slice none 0 0] 40 (0, 0)) := by rw [hX]; exact (heap_setNe _ _ (by omega)).trans HY6.out
            have hXM : MapAt w.heap.size X W1.heap.size m := by rw [hX]; exact mapAt_set1 HM6.out HR6.out (by decide) (by decide) _ _
            have hXB : Below w.heap.size w X := by rw [hX]; exact below_set B6.out (by omega) _ _
            rw [← hX]
            have s0 := cell_of hXR 0
            have s1 := cell_of hXR 1
            have s2 := cell_of hXR 2
            have s3 := cell_of hXR 3
            have s4 := cell_of hXR 4
            have s5 := cell_of hXR 5
            simp only [List.getElem?_toArray, List.getElem?_cons_succ, List.getElem?_cons_zero] at s0 s1 s2 s3 s4 s5
            have hXl : w4.heap.size < X.heap.size := (Array.getElem?_eq_some_iff.1 hXR).1
            have HXR := Lib.hid hXR
            have HXY := Lib.hid hXY
            have HXM := Lib.hid (hXM.below (Below.refl _ _).drew)
            have HXB := Lib.hid hXB
            have HXE := Lib.hid hX
            clear hXR hXY hXM hXB hX f0 f1 f2 f3
            go_region_held3 (fun w' => w'.cell? ⟨w4.heap.size, 0, none⟩ = some (.int .i64 0) ∧ w'.cell? ⟨w4.heap.size, 1, none⟩ = some (.bool false) ∧ w'.cell? ⟨w4.heap.size, 2, none⟩ = some (.bool false) ∧ w'.cell? ⟨w4.heap.size, 3, none⟩ = some (.string ⟨#[]⟩) ∧ w'.cell? ⟨w4.heap.size, 4, none⟩ = some (.int .i64 0) ∧ w'.cell? ⟨w4.heap.size, 5, none⟩ = some (.slice A6 m.length cap6))
              (first | (go_split_ands; refine ⟨?_, ?_, ?_, ?_, ?_, ?_⟩ <;> with_reducible assumption) | (go_split_ands; refine ⟨?_, ?_, ?_, ?_, ?_, ?_⟩ <;> (rw [cell6 _ _ _ _ _ _ (by omega)]; with_reducible assumption)) | go_keep)
              ((go_at_call 60; refine (pairs_m HXM.out (by omega)).mono ?_; rintro e w7 ⟨v7, rfl, hp7, hb7⟩; have hr7 := (hb7.block _ hXl).trans HXR.out; have hy7 := (hb7.block (w.heap.size + 1) (show w.heap.size + 1 < X.heap.size by omega)).trans HXY.out; have u0 := cell_of hr7 0; have u1 := cell_of hr7 1; have u2 := cell_of hr7 2; have u3 := cell_of hr7 3; have u4 := cell_of hr7 4; have u5 := cell_of hr7 5; have t0 := cell_of hy7 0; have t1 := cell_of hy7 1; have t2 := cell_of hy7 2; have t3 := cell_of hy7 3; have t4 := cell_of hy7 4; have t5 := cell_of hy7 5; have v0 := frozen_of hy7 0; have v1 := frozen_of hy7 1; have v2 := frozen_of hy7 2; have v3 := frozen_of hy7 3; have v4 := frozen_of hy7 4; have v5 := frozen_of hy7 5; simp only [List.getElem?_toArray, List.getElem?_cons_succ, List.getElem?_cons_zero] at u0 u1 u2 u3 u4 u5 t0 t1 t2 t3 t4 t5; have R7 := Lib.hid hp7; have HY7 := Lib.hid hy7; have B7 := Lib.hid (HXB.out.trans ((Below.refl _ _).drew.trans (hb7.mono HXB.out.size))); have H7 := Lib.hid hb7; clear hr7 hy7 hb7 hp7))
            go_wp2_with fail
            refine bodyPost_ret (results_tmp_cell rfl _ _ (w.heap.size + 1) _ _ _ _ rfl (store6 _ _ _ _ _ _ HY7.out) Tryz.underlying40 rfl infoRep) rfl ?_
            have hD := HD0.out
            simp only [show ¬ ((10 : Int) = 8) by decide, show ¬ ((10 : Int) = 9) by decide, if_true, if_false] at hD
            rw [hD.1, hD.2]
            exact ⟨_, _, rfl, row_base (owns_set6 R7.out HY7.out (by decide) _ _ _ _ _ _) HXB.out.size, Prs.of_owns (owns_set6 (owns_kept (w := X) (by rw [HXE.out]; exact owns_set1 HP6.out HR6.out (by decide) _ _) fun k cs f hk => H7.out.block k (Array.getElem?_eq_some_iff.1 hk).1) HY7.out (by decide) _ _ _ _ _ _), below6 B7.out (by omega) _ _ _ _ _ _⟩
          have hk7 : kd ≤ 7 := by omega
          have b8 : (kd == 8) = false := by rw [beq_eq_false_iff_ne]; omega
          have b9 : (kd == 9) = false := by rw [beq_eq_false_iff_ne]; omega
          have b10 : (kd == 10) = false := by rw [beq_eq_false_iff_ne]; omega
          have b11 : (kd == 11) = false := by rw [beq_eq_false_iff_ne]; omega
          have hb0 : Below w4.heap.size w4 (w4.alloc (.cells #[.int .i64 0, .bool false, .bool false, .string ⟨#[]⟩, .int .i64 0, .slice none 0 0] 40)) := (Below.refl _ _).alloc (Nat.le_refl _) _
          go_wp2_with fail
          refine (keyed_any (HM4.out.below hb0) (by omega) kd key value old hk8 hk7).mono ?_
          have hD := HD0.out
          simp only [h8, h9, h10, h11, if_false] at hD
          have hlk := length_doM (o := ⟨kd, key, value, old⟩) HS.out
          rw [hD.2] at hlk
          have hrp : (keyedR m ⟨kd, key, value, old⟩).pairs = [] := rfl
          obtain ⟨r, hr⟩ : ∃ r, r = keyedR m ⟨kd, key, value, old⟩ := ⟨_, rfl⟩
          rw [← hr] at hD hrp ⊢
          have HDK := Lib.hid hD
          have HRP := Lib.hid hrp
          clear hD hrp hr
          unfold repC
          rintro e w6 ⟨rfl, hm6, hk6⟩
          have hr6 := (hk6.other _ _ _ _ (heap_alloc_new w4 _) (by decide) (by decide)).trans (heap_alloc_new w4 _)
          have hy6 := (hk6.other _ _ _ _ ((Below.heap_alloc _ _ _ (by omega)).trans HY4.out) (by decide) (by decide)).trans ((Below.heap_alloc _ _ _ (by omega)).trans HY4.out)
          have hx6 := (hk6.other _ _ _ _ ((Below.heap_alloc _ _ _ (by omega)).trans HX4.out) (by decide) (by decide)).trans ((Below.heap_alloc _ _ _ (by omega)).trans HX4.out)
          have y0 := cell_of hr6 0
          have y1 := cell_of hr6 1
          have y2 := cell_of hr6 2
          have y3 := cell_of hr6 3
          have y4 := cell_of hr6 4
          have y5 := cell_of hr6 5
          have x0 := frozen_of hr6 0
          have x1 := frozen_of hr6 1
          have x2 := frozen_of hr6 2
          have x3 := frozen_of hr6 3
          have x4 := frozen_of hr6 4
          have x5 := frozen_of hr6 5
          simp only [List.getElem?_toArray, List.getElem?_cons_succ, List.getElem?_cons_zero] at y0 y1 y2 y3 y4 y5
          have B6 := Lib.hid ((B4.out.alloc (by omega) _).trans hk6.below)
          have HR6 := Lib.hid hr6
          have HY6 := Lib.hid hy6
          have HM6 := Lib.hid hm6
          clear hr6 hy6 hx6 hm6 hk6 hb0
          go_wp2_with fail
          obtain ⟨X, hX⟩ : ∃ X, X = ((((((w6.setCell ⟨w4.heap.size, 0, none⟩ (.int .i64 r.err)).setCell ⟨w4.heap.size, 1, none⟩ (.bool r.had)).setCell ⟨w4.heap.size, 2, none⟩ (.bool r.did)).setCell ⟨w4.heap.size, 3, none⟩ (.string r.value)).setCell ⟨w4.heap.size, 4, none⟩ (.int .i64 r.n)).setCell ⟨w4.heap.size, 5, none⟩ (.slice none 0 0)) := ⟨_, rfl⟩
          have hXR : X.heap[w4.heap.size]? = some (.cells #[.int .i64 r.err, .bool r.had, .bool r.did, .string r.value, .int .i64 r.n, .slice none 0 0] 40 (0, 0)) := by rw [hX]; exact store6 _ _ _ _ _ _ HR6.out
          have hXY : X.heap[w.heap.size + 1]? = some (.cells #[.int .i64 0, .bool false, .bool false, .string ⟨#[]⟩, .int .i64 0, .slice none 0 0] 40 (0, 0)) := by rw [hX]; exact (heap6 _ _ _ _ _ _ (by omega)).trans HY6.out
          have hXM : MapAt w.heap.size X W1.heap.size (keyedM m ⟨kd, key, value, old⟩) := by rw [hX]; exact mapAt_set6 HM6.out HR6.out (by decide) (by decide) _ _ _ _ _ _
          have hXB : Below w.heap.size w X := by rw [hX]; exact below6 B6.out (by omega) _ _ _ _ _ _
          rw [← hX]
          have s0 := cell_of hXR 0
          have s1 := cell_of hXR 1
          have s2 := cell_of hXR 2
          have s3 := cell_of hXR 3
          have s4 := cell_of hXR 4
          have s5 := cell_of hXR 5
          simp only [List.getElem?_toArray, List.getElem?_cons_succ, List.getElem?_cons_zero] at s0 s1 s2 s3 s4 s5
          have hXl : w4.heap.size < X.heap.size := (Array.getElem?_eq_some_iff.1 hXR).1
          have HXR := Lib.hid hXR
          have HXY := Lib.hid hXY
          have HXM := Lib.hid (hXM.below (Below.refl _ _).drew)
          have HXB := Lib.hid hXB
          have HXE := Lib.hid hX
          clear hXR hXY hXM hXB hX f0 f1 f2 f3
          go_region_held3 (fun w' => w'.cell? ⟨w4.heap.size, 0, none⟩ = some (.int .i64 r.err) ∧ w'.cell? ⟨w4.heap.size, 1, none⟩ = some (.bool r.had) ∧ w'.cell? ⟨w4.heap.size, 2, none⟩ = some (.bool r.did) ∧ w'.cell? ⟨w4.heap.size, 3, none⟩ = some (.string r.value) ∧ w'.cell? ⟨w4.heap.size, 4, none⟩ = some (.int .i64 r.n) ∧ w'.cell? ⟨w4.heap.size, 5, none⟩ = some (.slice none 0 0))
            (first | (go_split_ands; refine ⟨?_, ?_, ?_, ?_, ?_, ?_⟩ <;> with_reducible assumption) | (go_split_ands; refine ⟨?_, ?_, ?_, ?_, ?_, ?_⟩ <;> (rw [cell6 _ _ _ _ _ _ (by omega)]; with_reducible assumption)) | go_keep)
            ((go_at_call 60; refine (pairs_m HXM.out (by omega)).mono ?_; rintro e w7 ⟨v7, rfl, hp7, hb7⟩; have hr7 := (hb7.block _ hXl).trans HXR.out; have hy7 := (hb7.block (w.heap.size + 1) (show w.heap.size + 1 < X.heap.size by omega)).trans HXY.out; have u0 := cell_of hr7 0; have u1 := cell_of hr7 1; have u2 := cell_of hr7 2; have u3 := cell_of hr7 3; have u4 := cell_of hr7 4; have u5 := cell_of hr7 5; have t0 := cell_of hy7 0; have t1 := cell_of hy7 1; have t2 := cell_of hy7 2; have t3 := cell_of hy7 3; have t4 := cell_of hy7 4; have t5 := cell_of hy7 5; have v0 := frozen_of hy7 0; have v1 := frozen_of hy7 1; have v2 := frozen_of hy7 2; have v3 := frozen_of hy7 3; have v4 := frozen_of hy7 4; have v5 := frozen_of hy7 5; simp only [List.getElem?_toArray, List.getElem?_cons_succ, List.getElem?_cons_zero] at u0 u1 u2 u3 u4 u5 t0 t1 t2 t3 t4 t5; have R7 := Lib.hid hp7; have HY7 := Lib.hid hy7; have B7 := Lib.hid (HXB.out.trans ((Below.refl _ _).drew.trans (hb7.mono HXB.out.size))); have H7 := Lib.hid hb7; clear hr7 hy7 hb7 hp7))
          go_wp2_with fail
          refine bodyPost_ret (results_tmp_cell rfl _ _ (w.heap.size + 1) _ _ _ _ rfl (store6 _ _ _ _ _ _ HY7.out) Tryz.underlying40 rfl infoRep) rfl ?_
          have hD := HDK.out
          rw [hD.1, hD.2]
          exact ⟨_, _, rfl, row_base (owns_set6 R7.out HY7.out (by decide) _ _ _ _ _ _) HXB.out.size, (by rw [HRP.out]; exact prs_nil _), below6 B7.out (by omega) _ _ _ _ _ _⟩
end Go.Proofs.YtdhgacionopghaaGreatDoor.Od
