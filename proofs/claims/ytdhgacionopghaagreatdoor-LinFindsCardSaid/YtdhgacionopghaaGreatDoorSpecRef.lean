/- spec: the reference's Do. -/
import Derived.Test.YtdhgacionopghaaGreatDoorSpecDo
namespace Go.Proofs.YtdhgacionopghaaGreatDoor.Sp
open Go.RowKit Go.Shelf Dc DcM DcW DcI DcR DcL
set_option linter.unusedVariables false
theorem cell6d {w : World} {g k j : Nat} (b0 b1 b2 b3 b4 b5 : Value) (hne : g ≠ k) :
    ((((((w.setCell ⟨g, 0, none⟩ b0).setCell ⟨g, 1, none⟩ b1).setCell ⟨g, 2, none⟩ b2).setCell ⟨g, 3, none⟩ b3).setCell ⟨g, 4, none⟩ b4).setCell ⟨g, 5, none⟩ b5).drew.cell? ⟨k, j, none⟩ = w.cell? ⟨k, j, none⟩ := by
  rw [show ∀ W : World, W.drew.cell? ⟨k, j, none⟩ = W.cell? ⟨k, j, none⟩ from fun _ => rfl]
  exact cell6 b0 b1 b2 b3 b4 b5 hne
theorem heap_drew (W : World) (k : Nat) : W.drew.heap[k]? = W.heap[k]? := rfl
set_option maxHeartbeats 16000000 in
set_option maxRecDepth 100000 in
theorem do_ref (w : World) (v : Value) (m : List Pr) (hP : Prs w v m) (hs : Sorted m) (hl : m.length < 99999) (kd : Int) (key value old : ByteArray) (hsz : key.size ≤ maxLen ∧ value.size ≤ maxLen) :
    Calls Tryz.prog 41 #[v, .agg #[.int .i64 kd, .string key, .string value, .string old]] w fun e w' => ∃ v' pv,
      e = .returned (.tuple #[v', .agg (repC (doR m ⟨kd, key, value, old⟩) pv)]) ∧ Prs w' v' (doM m ⟨kd, key, value, old⟩) ∧ Prs w' pv (doR m ⟨kd, key, value, old⟩).pairs ∧ Below w.heap.size w w' := by
  obtain ⟨W1, hW1⟩ : ∃ W, W = (w.alloc (.cells #[.int .i64 kd, .string key, .string value, .string old] 42)).alloc (.cells #[.int .i64 0, .bool false, .bool false, .string ⟨#[]⟩, .int .i64 0, .slice none 0 0] 40) := ⟨_, rfl⟩
  have hb1 : Below w.heap.size w W1 := by rw [hW1]; exact ((Below.refl _ _).alloc (Nat.le_refl _) _).alloc (by simp) _
  have hx : W1.heap[w.heap.size]? = some (.cells #[.int .i64 kd, .string key, .string value, .string old] 42 (0, 0)) := by
    rw [hW1]; exact (Below.heap_alloc _ _ _ (by simp)).trans (heap_alloc_new w _)
  have hy : W1.heap[w.heap.size + 1]? = some (.cells #[.int .i64 0, .bool false, .bool false, .string ⟨#[]⟩, .int .i64 0, .slice none 0 0] 40 (0, 0)) := by
    rw [hW1]; have := heap_alloc_new (w.alloc (.cells #[.int .i64 kd, .string key, .string value, .string old] 42)) (.cells #[.int .i64 0, .bool false, .bool false, .string ⟨#[]⟩, .int .i64 0, .slice none 0 0] 40); simpa using this
  have hs1 : W1.heap.size = w.heap.size + 2 := by rw [hW1]; simp
  obtain ⟨A, cap, rfl, hcap, hc⟩ := id hP
  have HP := Lib.hid hP
  have B1 := Lib.hid hb1
  have HX := Lib.hid hx
  have HY := Lib.hid hy
  have HW := Lib.hid hW1
  have HS1 := Lib.hid hs1
  have HS := Lib.hid hs
  have HZ := Lib.hid hsz
  clear hx hy hb1 hs1 hW1 hs hc hsz hP hcap
  by_cases hk0 : kd < 1 ∨ 11 < kd
  · have HD := Lib.hid (show doR m ⟨kd, key, value, old⟩ = { err := 2 } ∧ doM m ⟨kd, key, value, old⟩ = m by unfold doR doM; rw [if_pos hk0, if_pos hk0]; exact ⟨rfl, rfl⟩)
    rcases hk0 with hk0 | hk0
    · go_enter Tryz.func41, Tryz.ntmps41
      go_wp2_with fail
      have hY0 : ((w.alloc (.cells #[.int .i64 kd, .string key, .string value, .string old] 42)).alloc (.cells #[.int .i64 2, .bool false, .bool false, .string ⟨#[]⟩, .int .i64 0, .slice none 0 0] 40)).heap[w.heap.size + 1]? = some (.cells #[.int .i64 2, .bool false, .bool false, .string ⟨#[]⟩, .int .i64 0, .slice none 0 0] 40 (0, 0)) := by have := heap_alloc_new (w.alloc (.cells #[.int .i64 kd, .string key, .string value, .string old] 42)) (.cells #[.int .i64 2, .bool false, .bool false, .string ⟨#[]⟩, .int .i64 0, .slice none 0 0] 40); simpa using this
      refine bodyPost_ret (results_tmp_cell rfl _ _ (w.heap.size + 1) _ _ _ _ rfl hY0 Tryz.underlying40 rfl infoRep) rfl ?_
      rw [HD.out.1, HD.out.2]
      have hbf : Below w.heap.size w ((w.alloc (.cells #[.int .i64 kd, .string key, .string value, .string old] 42)).alloc (.cells #[.int .i64 2, .bool false, .bool false, .string ⟨#[]⟩, .int .i64 0, .slice none 0 0] 40)) := ((Below.refl _ _).alloc (Nat.le_refl _) _).alloc (by simp) _
      exact ⟨_, _, rfl, HP.out.below hbf, prs_nil _, hbf⟩
    · have hk9 : ¬ kd < 1 := by omega
      go_enter Tryz.func41, Tryz.ntmps41
      go_wp2_with fail
      have hY0 : ((w.alloc (.cells #[.int .i64 kd, .string key, .string value, .string old] 42)).alloc (.cells #[.int .i64 2, .bool false, .bool false, .string ⟨#[]⟩, .int .i64 0, .slice none 0 0] 40)).heap[w.heap.size + 1]? = some (.cells #[.int .i64 2, .bool false, .bool false, .string ⟨#[]⟩, .int .i64 0, .slice none 0 0] 40 (0, 0)) := by have := heap_alloc_new (w.alloc (.cells #[.int .i64 kd, .string key, .string value, .string old] 42)) (.cells #[.int .i64 2, .bool false, .bool false, .string ⟨#[]⟩, .int .i64 0, .slice none 0 0] 40); simpa using this
      refine bodyPost_ret (results_tmp_cell rfl _ _ (w.heap.size + 1) _ _ _ _ rfl hY0 Tryz.underlying40 rfl infoRep) rfl ?_
      rw [HD.out.1, HD.out.2]
      have hbf : Below w.heap.size w ((w.alloc (.cells #[.int .i64 kd, .string key, .string value, .string old] 42)).alloc (.cells #[.int .i64 2, .bool false, .bool false, .string ⟨#[]⟩, .int .i64 0, .slice none 0 0] 40)) := ((Below.refl _ _).alloc (Nat.le_refl _) _).alloc (by simp) _
      exact ⟨_, _, rfl, HP.out.below hbf, prs_nil _, hbf⟩
  · have hk8 : 1 ≤ kd := by omega
    have hk9 : kd ≤ 11 := by omega
    go_enter Tryz.func41, Tryz.ntmps41
    go_wp2_with fail
    rw [← HW.out]
    refine (long_ref W1 kd key value old HZ.out.1 HZ.out.2).mono ?_
    rintro e w4 ⟨rfl, hb4⟩
    have hs4 : w.heap.size + 2 ≤ w4.heap.size := by have := hb4.size; rw [HS1.out] at this; exact this
    have hx4 := (hb4.block _ (by rw [HS1.out]; omega)).trans HX.out
    have hy4 := (hb4.block _ (by rw [HS1.out]; omega)).trans HY.out
    have HX4 := Lib.hid hx4
    have HY4 := Lib.hid hy4
    have B4 := Lib.hid (B1.out.trans (hb4.mono B1.out.size))
    have f0 := cell_of hx4 0
    have f1 := cell_of hx4 1
    have f2 := cell_of hx4 2
    have f3 := cell_of hx4 3
    have t0 := cell_of hy4 0
    have t1 := cell_of hy4 1
    have t2 := cell_of hy4 2
    have t3 := cell_of hy4 3
    have t4 := cell_of hy4 4
    have t5 := cell_of hy4 5
    have v0 := frozen_of hy4 0
    have v1 := frozen_of hy4 1
    have v2 := frozen_of hy4 2
    have v3 := frozen_of hy4 3
    have v4 := frozen_of hy4 4
    have v5 := frozen_of hy4 5
    simp only [List.getElem?_toArray, List.getElem?_cons_succ, List.getElem?_cons_zero] at f0 f1 f2 f3 t0 t1 t2 t3 t4 t5
    clear hb4 hx4 hy4
    cases hlg : long ⟨kd, key, value, old⟩ with
    | true =>
      have HD := Lib.hid (show doR m ⟨kd, key, value, old⟩ = { err := 11 } ∧ doM m ⟨kd, key, value, old⟩ = m by unfold doR doM; rw [if_neg hk0, if_neg hk0, if_pos hlg, if_pos hlg]; exact ⟨rfl, rfl⟩)
      go_wp2_with fail
      refine bodyPost_ret (results_tmp_cell rfl _ _ (w.heap.size + 1) _ _ _ _ rfl (store6 _ _ _ _ _ _ HY4.out) Tryz.underlying40 rfl infoRep) rfl ?_
      rw [HD.out.1, HD.out.2]
      have hbf := fun b0 b1 b2 b3 b4 b5 => below6 B4.out (show w.heap.size ≤ w.heap.size + 1 by omega) b0 b1 b2 b3 b4 b5
      exact ⟨_, _, rfl, HP.out.below (hbf _ _ _ _ _ _), prs_nil _, hbf _ _ _ _ _ _⟩
    | false =>
      by_cases h8 : kd = 8
      · subst h8
        have HD := Lib.hid (show doR m ⟨8, key, value, old⟩ = { n := m.length } ∧ doM m ⟨8, key, value, old⟩ = m by unfold doR doM; rw [if_neg hk0, if_neg hk0, hlg]; exact ⟨rfl, rfl⟩)
        go_wp2_with fail
        refine bodyPost_ret (results_tmp_cell rfl _ _ (w.heap.size + 1) _ _ _ _ rfl (store6 _ _ _ _ _ _ HY4.out) Tryz.underlying40 rfl infoRep) rfl ?_
        rw [HD.out.1, HD.out.2]
        have hbf := fun b0 b1 b2 b3 b4 b5 => below6 B4.out (show w.heap.size ≤ w.heap.size + 1 by omega) b0 b1 b2 b3 b4 b5
        exact ⟨_, _, rfl, HP.out.below (hbf _ _ _ _ _ _), prs_nil _, hbf _ _ _ _ _ _⟩
      by_cases h9 : kd = 9
      · subst h9
        have HD := Lib.hid (show doR m ⟨9, key, value, old⟩ = { did := true } ∧ doM m ⟨9, key, value, old⟩ = [] by unfold doR doM; rw [if_neg hk0, if_neg hk0, hlg]; exact ⟨rfl, rfl⟩)
        have hy5 : (w4.alloc (.cells #[] 74)).heap[w.heap.size + 1]? = some (.cells #[.int .i64 0, .bool false, .bool false, .string ⟨#[]⟩, .int .i64 0, .slice none 0 0] 40 (0, 0)) := (Below.heap_alloc _ _ _ (by omega)).trans HY4.out
        have r0 := cell_of hy5 0
        have r1 := cell_of hy5 1
        have r2 := cell_of hy5 2
        have r3 := cell_of hy5 3
        have r4 := cell_of hy5 4
        have r5 := cell_of hy5 5
        have x0 := frozen_of hy5 0
        have x1 := frozen_of hy5 1
        have x2 := frozen_of hy5 2
        have x3 := frozen_of hy5 3
        have x4 := frozen_of hy5 4
        have x5 := frozen_of hy5 5
        simp only [List.getElem?_toArray, List.getElem?_cons_succ, List.getElem?_cons_zero] at r0 r1 r2 r3 r4 r5
        have HY5 := Lib.hid hy5
        clear hy5
        go_wp2_with fail
        refine bodyPost_ret (results_tmp_cell rfl _ _ (w.heap.size + 1) _ _ _ _ rfl (store6 _ _ _ _ _ _ HY5.out) Tryz.underlying40 rfl infoRep) rfl ?_
        rw [HD.out.1, HD.out.2]
        have hbf := fun b0 b1 b2 b3 b4 b5 => below6 (B4.out.alloc (by omega) (.cells #[] 74)) (show w.heap.size ≤ w.heap.size + 1 by omega) b0 b1 b2 b3 b4 b5
        exact ⟨_, _, rfl, ⟨some ⟨w4.heap.size, 0, none⟩, 0, rfl, Nat.le_refl _, fun j p hj => by simp at hj⟩, prs_nil _, hbf _ _ _ _ _ _⟩
      by_cases h10 : kd = 10
      · subst h10
        have HD := Lib.hid (show doR m ⟨10, key, value, old⟩ = { pairs := m } ∧ doM m ⟨10, key, value, old⟩ = m by unfold doR doM; rw [if_neg hk0, if_neg hk0, hlg]; exact ⟨rfl, rfl⟩)
        go_wp2_with fail
        refine bodyPost_ret (results_tmp_cell rfl _ _ (w.heap.size + 1) _ _ _ _ rfl (store6 _ _ _ _ _ _ HY4.out) Tryz.underlying40 rfl infoRep) rfl ?_
        rw [HD.out.1, HD.out.2]
        have hbf := fun b0 b1 b2 b3 b4 b5 => below6 B4.out (show w.heap.size ≤ w.heap.size + 1 by omega) b0 b1 b2 b3 b4 b5
        exact ⟨_, _, rfl, HP.out.below (hbf _ _ _ _ _ _), HP.out.below (hbf _ _ _ _ _ _), hbf _ _ _ _ _ _⟩
      by_cases h11 : kd = 11
      · subst h11
        have HD := Lib.hid (show doR m ⟨11, key, value, old⟩ = {} ∧ doM m ⟨11, key, value, old⟩ = m by unfold doR doM; rw [if_neg hk0, if_neg hk0, hlg]; exact ⟨rfl, rfl⟩)
        go_wp2_with fail
        refine bodyPost_ret (results_tmp_cell rfl _ _ (w.heap.size + 1) _ _ _ _ rfl (store6 _ _ _ _ _ _ HY4.out) Tryz.underlying40 rfl infoRep) rfl ?_
        rw [HD.out.1, HD.out.2]
        have hbf := fun b0 b1 b2 b3 b4 b5 => below6 B4.out (show w.heap.size ≤ w.heap.size + 1 by omega) b0 b1 b2 b3 b4 b5
        exact ⟨_, _, rfl, HP.out.below (hbf _ _ _ _ _ _), prs_nil _, hbf _ _ _ _ _ _⟩
      have HDK := Lib.hid (show doR m ⟨kd, key, value, old⟩ = keyedR m ⟨kd, key, value, old⟩ ∧ doM m ⟨kd, key, value, old⟩ = keyedM m ⟨kd, key, value, old⟩ by unfold doR doM; rw [if_neg hk0, if_neg hk0, hlg]; simp only [Bool.false_eq_true, if_false, h8, h9, h10, h11]; exact ⟨trivial, trivial⟩)
      obtain ⟨⟨gv, gh⟩, hg⟩ : ∃ x, x = dget m key := ⟨_, rfl⟩
      have HG := Lib.hid hg
      clear hg
      have hx5 : ∀ d, (w4.alloc (.cells #[.int .i64 0, .bool gh, .bool d, .string gv, .int .i64 0, .slice none 0 0] 40)).heap[w.heap.size]? = some (.cells #[.int .i64 kd, .string key, .string value, .string old] 42 (0, 0)) := fun d => (Below.heap_alloc _ _ _ (by omega)).trans HX4.out
      have hy5 : ∀ d, (w4.alloc (.cells #[.int .i64 0, .bool gh, .bool d, .string gv, .int .i64 0, .slice none 0 0] 40)).heap[w.heap.size + 1]? = some (.cells #[.int .i64 0, .bool false, .bool false, .string ⟨#[]⟩, .int .i64 0, .slice none 0 0] 40 (0, 0)) := fun d => (Below.heap_alloc _ _ _ (by omega)).trans HY4.out
      have HX5 := Lib.hid hx5
      have HY5 := Lib.hid hy5
      have g0 := fun d => cell_of (hx5 d) 0
      have g1 := fun d => cell_of (hx5 d) 1
      have g2 := fun d => cell_of (hx5 d) 2
      have g3 := fun d => cell_of (hx5 d) 3
      simp only [List.getElem?_toArray, List.getElem?_cons_succ, List.getElem?_cons_zero] at g0 g1 g2 g3
      clear hx5 hy5 t0 t1 t2 t3 t4 t5 v0 v1 v2 v3 v4 v5
      have hk7 : kd ≤ 7 := by omega
      clear hlg h8 h9 h10 h11 hk9
      rcases (show kd = 1 ∨ kd = 2 ∨ kd = 3 ∨ kd = 4 ∨ kd = 5 ∨ kd = 6 ∨ kd = 7 by omega) with rfl | rfl | rfl | rfl | rfl | rfl | rfl
      · cases gh with
        | false =>
          go_wp2_with fail
          refine (get_ref w4 _ m key (HP.out.below B4.out) (by omega)).mono ?_
          rw [← HG.out]
          rintro e w6 ⟨rfl, rfl⟩
          have HV := Lib.hid (keyed_vals HG.out false (show hit ⟨1, key, value, old⟩ (gv, false) = false by simp [hit]) (.slice none 0 0))
          dsimp only
          go_wp2_with fail
          obtain ⟨X, hX⟩ : ∃ X, X = (w6.alloc (.cells #[.int .i64 0, .bool false, .bool false, .string gv, .int .i64 0, .slice none 0 0] 40)) := ⟨_, rfl⟩
          have hXR : X.heap[w6.heap.size]? = some (.cells #[.int .i64 0, .bool false, .bool false, .string gv, .int .i64 0, .slice none 0 0] 40 (0, 0)) := by rw [hX]; exact heap_alloc_new w6 _
          have hXY : X.heap[w.heap.size + 1]? = some (.cells #[.int .i64 0, .bool false, .bool false, .string ⟨#[]⟩, .int .i64 0, .slice none 0 0] 40 (0, 0)) := by rw [hX]; exact HY5.out false
          have hXX : X.heap[w.heap.size]? = some (.cells #[.int .i64 1, .string key, .string value, .string old] 42 (0, 0)) := by rw [hX]; exact HX5.out false
          have hXB : Below w.heap.size w X := by rw [hX]; exact B4.out.alloc (by omega) _
          rw [← hX]
          have s0 := cell_of hXR 0
          have s1 := cell_of hXR 1
          have s2 := cell_of hXR 2
          have s3 := cell_of hXR 3
          have s4 := cell_of hXR 4
          have s5 := cell_of hXR 5
          have s6 := cell_of hXX 1
          have s7 := cell_of hXX 2
          simp only [List.getElem?_toArray, List.getElem?_cons_succ, List.getElem?_cons_zero] at s0 s1 s2 s3 s4 s5 s6 s7
          have hXl : w6.heap.size < X.heap.size := (Array.getElem?_eq_some_iff.1 hXR).1
          have HXR := Lib.hid hXR
          have HXY := Lib.hid hXY
          have HXX := Lib.hid hXX
          have HXB := Lib.hid hXB
          clear hXX hXB hX g0 g1 g2 g3 f0 f1 f2 f3
          have t0 := cell_of hXY 0
          have t1 := cell_of hXY 1
          have t2 := cell_of hXY 2
          have t3 := cell_of hXY 3
          have t4 := cell_of hXY 4
          have t5 := cell_of hXY 5
          have v0 := frozen_of hXY 0
          have v1 := frozen_of hXY 1
          have v2 := frozen_of hXY 2
          have v3 := frozen_of hXY 3
          have v4 := frozen_of hXY 4
          have v5 := frozen_of hXY 5
          simp only [List.getElem?_toArray, List.getElem?_cons_succ, List.getElem?_cons_zero] at t0 t1 t2 t3 t4 t5
          clear hXR hXY
          go_region_held3 (fun w' => w'.cell? ⟨w6.heap.size, 0, none⟩ = some (.int .i64 0) ∧ w'.cell? ⟨w6.heap.size, 1, none⟩ = some (.bool false) ∧ w'.cell? ⟨w6.heap.size, 2, none⟩ = some (.bool false) ∧ w'.cell? ⟨w6.heap.size, 3, none⟩ = some (.string gv) ∧ w'.cell? ⟨w6.heap.size, 4, none⟩ = some (.int .i64 0) ∧ w'.cell? ⟨w6.heap.size, 5, none⟩ = some (.slice none 0 0) ∧ w'.cell? ⟨w.heap.size, 1, none⟩ = some (.string key) ∧ w'.cell? ⟨w.heap.size, 2, none⟩ = some (.string value))
            (first | (go_split_ands; refine ⟨?_, ?_, ?_, ?_, ?_, ?_, ?_, ?_⟩ <;> with_reducible assumption) | (go_split_ands; refine ⟨?_, ?_, ?_, ?_, ?_, ?_, ?_, ?_⟩ <;> (rw [cell6 _ _ _ _ _ _ (by omega)]; with_reducible assumption)) | (go_split_ands; refine ⟨?_, ?_, ?_, ?_, ?_, ?_, ?_, ?_⟩ <;> (rw [cell6d _ _ _ _ _ _ (by omega)]; with_reducible assumption)) | go_keep)
            (fail)
          go_wp2_with fail
          have hZ : ((((((X.setCell ⟨w.heap.size + 1, 0, none⟩ (.int .i64 0)).setCell ⟨w.heap.size + 1, 1, none⟩ (.bool false)).setCell ⟨w.heap.size + 1, 2, none⟩ (.bool false)).setCell ⟨w.heap.size + 1, 3, none⟩ (.string gv)).setCell ⟨w.heap.size + 1, 4, none⟩ (.int .i64 0)).setCell ⟨w.heap.size + 1, 5, none⟩ (.slice none 0 0)).drew.heap[w.heap.size + 1]? = some (.cells #[.int .i64 0, .bool false, .bool false, .string gv, .int .i64 0, .slice none 0 0] 40 (0, 0)) := (heap_drew _ _).trans (store6 _ _ _ _ _ _ HXY.out)
          have hbf : Below w.heap.size w ((((((X.setCell ⟨w.heap.size + 1, 0, none⟩ (.int .i64 0)).setCell ⟨w.heap.size + 1, 1, none⟩ (.bool false)).setCell ⟨w.heap.size + 1, 2, none⟩ (.bool false)).setCell ⟨w.heap.size + 1, 3, none⟩ (.string gv)).setCell ⟨w.heap.size + 1, 4, none⟩ (.int .i64 0)).setCell ⟨w.heap.size + 1, 5, none⟩ (.slice none 0 0)).drew := (below6 HXB.out (by omega) _ _ _ _ _ _).drew
          refine bodyPost_ret (results_tmp_cell rfl _ _ (w.heap.size + 1) _ _ _ _ rfl hZ Tryz.underlying40 rfl infoRep) rfl ?_
          rw [HDK.out.1, HDK.out.2, HV.out.2]
          refine ⟨_, .slice none 0 0, ?_, HP.out.below hbf, prs_nil _, hbf⟩
          rw [HV.out.1]; rfl
        | true =>
          by_cases hv : gv = old
          · have ho : (gv.toList == old.toList) = true := by rw [hv]; exact beq_self_eq_true _
            have HO := Lib.hid hv
            clear hv
            go_wp2_with fail
            refine (get_ref w4 _ m key (HP.out.below B4.out) (by omega)).mono ?_
            rw [← HG.out]
            rintro e w6 ⟨rfl, rfl⟩
            have HV := Lib.hid (keyed_vals HG.out false (show hit ⟨1, key, value, old⟩ (gv, true) = false by simp [hit, HO.out]) (.slice none 0 0))
            dsimp only
            go_wp2_with fail
            obtain ⟨X, hX⟩ : ∃ X, X = (w6.alloc (.cells #[.int .i64 0, .bool true, .bool false, .string gv, .int .i64 0, .slice none 0 0] 40)) := ⟨_, rfl⟩
            have hXR : X.heap[w6.heap.size]? = some (.cells #[.int .i64 0, .bool true, .bool false, .string gv, .int .i64 0, .slice none 0 0] 40 (0, 0)) := by rw [hX]; exact heap_alloc_new w6 _
            have hXY : X.heap[w.heap.size + 1]? = some (.cells #[.int .i64 0, .bool false, .bool false, .string ⟨#[]⟩, .int .i64 0, .slice none 0 0] 40 (0, 0)) := by rw [hX]; exact HY5.out false
            have hXX : X.heap[w.heap.size]? = some (.cells #[.int .i64 1, .string key, .string value, .string old] 42 (0, 0)) := by rw [hX]; exact HX5.out false
            have hXB : Below w.heap.size w X := by rw [hX]; exact B4.out.alloc (by omega) _
            rw [← hX]
            have s0 := cell_of hXR 0
            have s1 := cell_of hXR 1
            have s2 := cell_of hXR 2
            have s3 := cell_of hXR 3
            have s4 := cell_of hXR 4
            have s5 := cell_of hXR 5
            have s6 := cell_of hXX 1
            have s7 := cell_of hXX 2
            simp only [List.getElem?_toArray, List.getElem?_cons_succ, List.getElem?_cons_zero] at s0 s1 s2 s3 s4 s5 s6 s7
            have hXl : w6.heap.size < X.heap.size := (Array.getElem?_eq_some_iff.1 hXR).1
            have HXR := Lib.hid hXR
            have HXY := Lib.hid hXY
            have HXX := Lib.hid hXX
            have HXB := Lib.hid hXB
            clear hXX hXB hX g0 g1 g2 g3 f0 f1 f2 f3
            have t0 := cell_of hXY 0
            have t1 := cell_of hXY 1
            have t2 := cell_of hXY 2
            have t3 := cell_of hXY 3
            have t4 := cell_of hXY 4
            have t5 := cell_of hXY 5
            have v0 := frozen_of hXY 0
            have v1 := frozen_of hXY 1
            have v2 := frozen_of hXY 2
            have v3 := frozen_of hXY 3
            have v4 := frozen_of hXY 4
            have v5 := frozen_of hXY 5
            simp only [List.getElem?_toArray, List.getElem?_cons_succ, List.getElem?_cons_zero] at t0 t1 t2 t3 t4 t5
            clear hXR hXY
            go_region_held3 (fun w' => w'.cell? ⟨w6.heap.size, 0, none⟩ = some (.int .i64 0) ∧ w'.cell? ⟨w6.heap.size, 1, none⟩ = some (.bool true) ∧ w'.cell? ⟨w6.heap.size, 2, none⟩ = some (.bool false) ∧ w'.cell? ⟨w6.heap.size, 3, none⟩ = some (.string gv) ∧ w'.cell? ⟨w6.heap.size, 4, none⟩ = some (.int .i64 0) ∧ w'.cell? ⟨w6.heap.size, 5, none⟩ = some (.slice none 0 0) ∧ w'.cell? ⟨w.heap.size, 1, none⟩ = some (.string key) ∧ w'.cell? ⟨w.heap.size, 2, none⟩ = some (.string value))
              (first | (go_split_ands; refine ⟨?_, ?_, ?_, ?_, ?_, ?_, ?_, ?_⟩ <;> with_reducible assumption) | (go_split_ands; refine ⟨?_, ?_, ?_, ?_, ?_, ?_, ?_, ?_⟩ <;> (rw [cell6 _ _ _ _ _ _ (by omega)]; with_reducible assumption)) | (go_split_ands; refine ⟨?_, ?_, ?_, ?_, ?_, ?_, ?_, ?_⟩ <;> (rw [cell6d _ _ _ _ _ _ (by omega)]; with_reducible assumption)) | go_keep)
              (fail)
            go_wp2_with fail
            have hZ : ((((((X.setCell ⟨w.heap.size + 1, 0, none⟩ (.int .i64 0)).setCell ⟨w.heap.size + 1, 1, none⟩ (.bool true)).setCell ⟨w.heap.size + 1, 2, none⟩ (.bool false)).setCell ⟨w.heap.size + 1, 3, none⟩ (.string gv)).setCell ⟨w.heap.size + 1, 4, none⟩ (.int .i64 0)).setCell ⟨w.heap.size + 1, 5, none⟩ (.slice none 0 0)).drew.heap[w.heap.size + 1]? = some (.cells #[.int .i64 0, .bool true, .bool false, .string gv, .int .i64 0, .slice none 0 0] 40 (0, 0)) := (heap_drew _ _).trans (store6 _ _ _ _ _ _ HXY.out)
            have hbf : Below w.heap.size w ((((((X.setCell ⟨w.heap.size + 1, 0, none⟩ (.int .i64 0)).setCell ⟨w.heap.size + 1, 1, none⟩ (.bool true)).setCell ⟨w.heap.size + 1, 2, none⟩ (.bool false)).setCell ⟨w.heap.size + 1, 3, none⟩ (.string gv)).setCell ⟨w.heap.size + 1, 4, none⟩ (.int .i64 0)).setCell ⟨w.heap.size + 1, 5, none⟩ (.slice none 0 0)).drew := (below6 HXB.out (by omega) _ _ _ _ _ _).drew
            refine bodyPost_ret (results_tmp_cell rfl _ _ (w.heap.size + 1) _ _ _ _ rfl hZ Tryz.underlying40 rfl infoRep) rfl ?_
            rw [HDK.out.1, HDK.out.2, HV.out.2]
            refine ⟨_, .slice none 0 0, ?_, HP.out.below hbf, prs_nil _, hbf⟩
            rw [HV.out.1]; rfl
          · have ho : (gv.toList == old.toList) = false := by rw [beq_lists, decide_eq_false hv]
            have HO := Lib.hid hv
            clear hv
            go_wp2_with fail
            refine (get_ref w4 _ m key (HP.out.below B4.out) (by omega)).mono ?_
            rw [← HG.out]
            rintro e w6 ⟨rfl, rfl⟩
            have HV := Lib.hid (keyed_vals HG.out false (show hit ⟨1, key, value, old⟩ (gv, true) = false by simp [hit, HO.out]) (.slice none 0 0))
            dsimp only
            go_wp2_with fail
            obtain ⟨X, hX⟩ : ∃ X, X = (w6.alloc (.cells #[.int .i64 0, .bool true, .bool false, .string gv, .int .i64 0, .slice none 0 0] 40)) := ⟨_, rfl⟩
            have hXR : X.heap[w6.heap.size]? = some (.cells #[.int .i64 0, .bool true, .bool false, .string gv, .int .i64 0, .slice none 0 0] 40 (0, 0)) := by rw [hX]; exact heap_alloc_new w6 _
            have hXY : X.heap[w.heap.size + 1]? = some (.cells #[.int .i64 0, .bool false, .bool false, .string ⟨#[]⟩, .int .i64 0, .slice none 0 0] 40 (0, 0)) := by rw [hX]; exact HY5.out false
            have hXX : X.heap[w.heap.size]? = some (.cells #[.int .i64 1, .string key, .string value, .string old] 42 (0, 0)) := by rw [hX]; exact HX5.out false
            have hXB : Below w.heap.size w X := by rw [hX]; exact B4.out.alloc (by omega) _
            rw [← hX]
            have s0 := cell_of hXR 0
            have s1 := cell_of hXR 1
            have s2 := cell_of hXR 2
            have s3 := cell_of hXR 3
            have s4 := cell_of hXR 4
            have s5 := cell_of hXR 5
            have s6 := cell_of hXX 1
            have s7 := cell_of hXX 2
            simp only [List.getElem?_toArray, List.getElem?_cons_succ, List.getElem?_cons_zero] at s0 s1 s2 s3 s4 s5 s6 s7
            have hXl : w6.heap.size < X.heap.size := (Array.getElem?_eq_some_iff.1 hXR).1
            have HXR := Lib.hid hXR
            have HXY := Lib.hid hXY
            have HXX := Lib.hid hXX
            have HXB := Lib.hid hXB
            clear hXX hXB hX g0 g1 g2 g3 f0 f1 f2 f3
            have t0 := cell_of hXY 0
            have t1 := cell_of hXY 1
            have t2 := cell_of hXY 2
            have t3 := cell_of hXY 3
            have t4 := cell_of hXY 4
            have t5 := cell_of hXY 5
            have v0 := frozen_of hXY 0
            have v1 := frozen_of hXY 1
            have v2 := frozen_of hXY 2
            have v3 := frozen_of hXY 3
            have v4 := frozen_of hXY 4
            have v5 := frozen_of hXY 5
            simp only [List.getElem?_toArray, List.getElem?_cons_succ, List.getElem?_cons_zero] at t0 t1 t2 t3 t4 t5
            clear hXR hXY
            go_region_held3 (fun w' => w'.cell? ⟨w6.heap.size, 0, none⟩ = some (.int .i64 0) ∧ w'.cell? ⟨w6.heap.size, 1, none⟩ = some (.bool true) ∧ w'.cell? ⟨w6.heap.size, 2, none⟩ = some (.bool false) ∧ w'.cell? ⟨w6.heap.size, 3, none⟩ = some (.string gv) ∧ w'.cell? ⟨w6.heap.size, 4, none⟩ = some (.int .i64 0) ∧ w'.cell? ⟨w6.heap.size, 5, none⟩ = some (.slice none 0 0) ∧ w'.cell? ⟨w.heap.size, 1, none⟩ = some (.string key) ∧ w'.cell? ⟨w.heap.size, 2, none⟩ = some (.string value))
              (first | (go_split_ands; refine ⟨?_, ?_, ?_, ?_, ?_, ?_, ?_, ?_⟩ <;> with_reducible assumption) | (go_split_ands; refine ⟨?_, ?_, ?_, ?_, ?_, ?_, ?_, ?_⟩ <;> (rw [cell6 _ _ _ _ _ _ (by omega)]; with_reducible assumption)) | (go_split_ands; refine ⟨?_, ?_, ?_, ?_, ?_, ?_, ?_, ?_⟩ <;> (rw [cell6d _ _ _ _ _ _ (by omega)]; with_reducible assumption)) | go_keep)
              (fail)
            go_wp2_with fail
            have hZ : ((((((X.setCell ⟨w.heap.size + 1, 0, none⟩ (.int .i64 0)).setCell ⟨w.heap.size + 1, 1, none⟩ (.bool true)).setCell ⟨w.heap.size + 1, 2, none⟩ (.bool false)).setCell ⟨w.heap.size + 1, 3, none⟩ (.string gv)).setCell ⟨w.heap.size + 1, 4, none⟩ (.int .i64 0)).setCell ⟨w.heap.size + 1, 5, none⟩ (.slice none 0 0)).drew.heap[w.heap.size + 1]? = some (.cells #[.int .i64 0, .bool true, .bool false, .string gv, .int .i64 0, .slice none 0 0] 40 (0, 0)) := (heap_drew _ _).trans (store6 _ _ _ _ _ _ HXY.out)
            have hbf : Below w.heap.size w ((((((X.setCell ⟨w.heap.size + 1, 0, none⟩ (.int .i64 0)).setCell ⟨w.heap.size + 1, 1, none⟩ (.bool true)).setCell ⟨w.heap.size + 1, 2, none⟩ (.bool false)).setCell ⟨w.heap.size + 1, 3, none⟩ (.string gv)).setCell ⟨w.heap.size + 1, 4, none⟩ (.int .i64 0)).setCell ⟨w.heap.size + 1, 5, none⟩ (.slice none 0 0)).drew := (below6 HXB.out (by omega) _ _ _ _ _ _).drew
            refine bodyPost_ret (results_tmp_cell rfl _ _ (w.heap.size + 1) _ _ _ _ rfl hZ Tryz.underlying40 rfl infoRep) rfl ?_
            rw [HDK.out.1, HDK.out.2, HV.out.2]
            refine ⟨_, .slice none 0 0, ?_, HP.out.below hbf, prs_nil _, hbf⟩
            rw [HV.out.1]; rfl
      · cases gh with
        | false =>
          go_wp2_with fail
          refine (get_ref w4 _ m key (HP.out.below B4.out) (by omega)).mono ?_
          rw [← HG.out]
          rintro e w6 ⟨rfl, rfl⟩
          have HV := Lib.hid (keyed_vals HG.out true (show hit ⟨2, key, value, old⟩ (gv, false) = true by simp [hit]) (.slice none 0 0))
          dsimp only
          go_wp2_with fail
          obtain ⟨X, hX⟩ : ∃ X, X = (w6.alloc (.cells #[.int .i64 0, .bool false, .bool true, .string gv, .int .i64 0, .slice none 0 0] 40)) := ⟨_, rfl⟩
          have hXR : X.heap[w6.heap.size]? = some (.cells #[.int .i64 0, .bool false, .bool true, .string gv, .int .i64 0, .slice none 0 0] 40 (0, 0)) := by rw [hX]; exact heap_alloc_new w6 _
          have hXY : X.heap[w.heap.size + 1]? = some (.cells #[.int .i64 0, .bool false, .bool false, .string ⟨#[]⟩, .int .i64 0, .slice none 0 0] 40 (0, 0)) := by rw [hX]; exact HY5.out true
          have hXX : X.heap[w.heap.size]? = some (.cells #[.int .i64 2, .string key, .string value, .string old] 42 (0, 0)) := by rw [hX]; exact HX5.out true
          have hXB : Below w.heap.size w X := by rw [hX]; exact B4.out.alloc (by omega) _
          rw [← hX]
          have s0 := cell_of hXR 0
          have s1 := cell_of hXR 1
          have s2 := cell_of hXR 2
          have s3 := cell_of hXR 3
          have s4 := cell_of hXR 4
          have s5 := cell_of hXR 5
          have s6 := cell_of hXX 1
          have s7 := cell_of hXX 2
          simp only [List.getElem?_toArray, List.getElem?_cons_succ, List.getElem?_cons_zero] at s0 s1 s2 s3 s4 s5 s6 s7
          have hXl : w6.heap.size < X.heap.size := (Array.getElem?_eq_some_iff.1 hXR).1
          have HXR := Lib.hid hXR
          have HXY := Lib.hid hXY
          have HXX := Lib.hid hXX
          have HXB := Lib.hid hXB
          clear hXX hXB hX g0 g1 g2 g3 f0 f1 f2 f3
          have HPX := Lib.hid (HP.out.below HXB.out.drew)
          clear hXR hXY
          go_region_held3 (fun w' => w'.cell? ⟨w6.heap.size, 0, none⟩ = some (.int .i64 0) ∧ w'.cell? ⟨w6.heap.size, 1, none⟩ = some (.bool false) ∧ w'.cell? ⟨w6.heap.size, 2, none⟩ = some (.bool true) ∧ w'.cell? ⟨w6.heap.size, 3, none⟩ = some (.string gv) ∧ w'.cell? ⟨w6.heap.size, 4, none⟩ = some (.int .i64 0) ∧ w'.cell? ⟨w6.heap.size, 5, none⟩ = some (.slice none 0 0) ∧ w'.cell? ⟨w.heap.size, 1, none⟩ = some (.string key) ∧ w'.cell? ⟨w.heap.size, 2, none⟩ = some (.string value))
            (first | (go_split_ands; refine ⟨?_, ?_, ?_, ?_, ?_, ?_, ?_, ?_⟩ <;> with_reducible assumption) | (go_split_ands; refine ⟨?_, ?_, ?_, ?_, ?_, ?_, ?_, ?_⟩ <;> (rw [cell6 _ _ _ _ _ _ (by omega)]; with_reducible assumption)) | (go_split_ands; refine ⟨?_, ?_, ?_, ?_, ?_, ?_, ?_, ?_⟩ <;> (rw [cell6d _ _ _ _ _ _ (by omega)]; with_reducible assumption)) | go_keep)
            ((go_at_call 54; refine (put_ref _ _ m key value HPX.out (by omega)).mono ?_; rw [ins_rdel HS.out]; rintro e w7 ⟨v7, rfl, hp7, hb7⟩; have hr7 := (hb7.block _ hXl).trans HXR.out; have hy7 := (hb7.block (w.heap.size + 1) (show w.heap.size + 1 < X.heap.size by omega)).trans HXY.out; have hx7 := (hb7.block w.heap.size (show w.heap.size < X.heap.size by omega)).trans HXX.out; have u0 := cell_of hr7 0; have u1 := cell_of hr7 1; have u2 := cell_of hr7 2; have u3 := cell_of hr7 3; have u4 := cell_of hr7 4; have u5 := cell_of hr7 5; have u6 := cell_of hx7 1; have u7 := cell_of hx7 2; have t0 := cell_of hy7 0; have t1 := cell_of hy7 1; have t2 := cell_of hy7 2; have t3 := cell_of hy7 3; have t4 := cell_of hy7 4; have t5 := cell_of hy7 5; have v0 := frozen_of hy7 0; have v1 := frozen_of hy7 1; have v2 := frozen_of hy7 2; have v3 := frozen_of hy7 3; have v4 := frozen_of hy7 4; have v5 := frozen_of hy7 5; simp only [List.getElem?_toArray, List.getElem?_cons_succ, List.getElem?_cons_zero] at u0 u1 u2 u3 u4 u5 u6 u7 t0 t1 t2 t3 t4 t5; have R7 := Lib.hid hp7; have HY7 := Lib.hid hy7; have B7 := Lib.hid (HXB.out.trans ((Below.refl _ _).drew.trans (hb7.mono HXB.out.size))); clear hr7 hy7 hx7 hb7 hp7))
          go_wp2_with fail
          refine bodyPost_ret (results_tmp_cell rfl _ _ (w.heap.size + 1) _ _ _ _ rfl (store6 _ _ _ _ _ _ HY7.out) Tryz.underlying40 rfl infoRep) rfl ?_
          rw [HDK.out.1, HDK.out.2, HV.out.2]
          refine ⟨_, .slice none 0 0, ?_, Prs.of_owns (owns_set6 R7.out HY7.out (by decide) _ _ _ _ _ _), prs_nil _, below6 B7.out (by omega) _ _ _ _ _ _⟩
          rw [HV.out.1]; rfl
        | true =>
          by_cases hv : gv = old
          · have ho : (gv.toList == old.toList) = true := by rw [hv]; exact beq_self_eq_true _
            have HO := Lib.hid hv
            clear hv
            go_wp2_with fail
            refine (get_ref w4 _ m key (HP.out.below B4.out) (by omega)).mono ?_
            rw [← HG.out]
            rintro e w6 ⟨rfl, rfl⟩
            have HV := Lib.hid (keyed_vals HG.out true (show hit ⟨2, key, value, old⟩ (gv, true) = true by simp [hit, HO.out]) (.slice none 0 0))
            dsimp only
            go_wp2_with fail
            obtain ⟨X, hX⟩ : ∃ X, X = (w6.alloc (.cells #[.int .i64 0, .bool true, .bool true, .string gv, .int .i64 0, .slice none 0 0] 40)) := ⟨_, rfl⟩
            have hXR : X.heap[w6.heap.size]? = some (.cells #[.int .i64 0, .bool true, .bool true, .string gv, .int .i64 0, .slice none 0 0] 40 (0, 0)) := by rw [hX]; exact heap_alloc_new w6 _
            have hXY : X.heap[w.heap.size + 1]? = some (.cells #[.int .i64 0, .bool false, .bool false, .string ⟨#[]⟩, .int .i64 0, .slice none 0 0] 40 (0, 0)) := by rw [hX]; exact HY5.out true
            have hXX : X.heap[w.heap.size]? = some (.cells #[.int .i64 2, .string key, .string value, .string old] 42 (0, 0)) := by rw [hX]; exact HX5.out true
            have hXB : Below w.heap.size w X := by rw [hX]; exact B4.out.alloc (by omega) _
            rw [← hX]
            have s0 := cell_of hXR 0
            have s1 := cell_of hXR 1
            have s2 := cell_of hXR 2
            have s3 := cell_of hXR 3
            have s4 := cell_of hXR 4
            have s5 := cell_of hXR 5
            have s6 := cell_of hXX 1
            have s7 := cell_of hXX 2
            simp only [List.getElem?_toArray, List.getElem?_cons_succ, List.getElem?_cons_zero] at s0 s1 s2 s3 s4 s5 s6 s7
            have hXl : w6.heap.size < X.heap.size := (Array.getElem?_eq_some_iff.1 hXR).1
            have HXR := Lib.hid hXR
            have HXY := Lib.hid hXY
            have HXX := Lib.hid hXX
            have HXB := Lib.hid hXB
            clear hXX hXB hX g0 g1 g2 g3 f0 f1 f2 f3
            have HPX := Lib.hid (HP.out.below HXB.out.drew)
            clear hXR hXY
            go_region_held3 (fun w' => w'.cell? ⟨w6.heap.size, 0, none⟩ = some (.int .i64 0) ∧ w'.cell? ⟨w6.heap.size, 1, none⟩ = some (.bool true) ∧ w'.cell? ⟨w6.heap.size, 2, none⟩ = some (.bool true) ∧ w'.cell? ⟨w6.heap.size, 3, none⟩ = some (.string gv) ∧ w'.cell? ⟨w6.heap.size, 4, none⟩ = some (.int .i64 0) ∧ w'.cell? ⟨w6.heap.size, 5, none⟩ = some (.slice none 0 0) ∧ w'.cell? ⟨w.heap.size, 1, none⟩ = some (.string key) ∧ w'.cell? ⟨w.heap.size, 2, none⟩ = some (.string value))
              (first | (go_split_ands; refine ⟨?_, ?_, ?_, ?_, ?_, ?_, ?_, ?_⟩ <;> with_reducible assumption) | (go_split_ands; refine ⟨?_, ?_, ?_, ?_, ?_, ?_, ?_, ?_⟩ <;> (rw [cell6 _ _ _ _ _ _ (by omega)]; with_reducible assumption)) | (go_split_ands; refine ⟨?_, ?_, ?_, ?_, ?_, ?_, ?_, ?_⟩ <;> (rw [cell6d _ _ _ _ _ _ (by omega)]; with_reducible assumption)) | go_keep)
              ((go_at_call 54; refine (put_ref _ _ m key value HPX.out (by omega)).mono ?_; rw [ins_rdel HS.out]; rintro e w7 ⟨v7, rfl, hp7, hb7⟩; have hr7 := (hb7.block _ hXl).trans HXR.out; have hy7 := (hb7.block (w.heap.size + 1) (show w.heap.size + 1 < X.heap.size by omega)).trans HXY.out; have hx7 := (hb7.block w.heap.size (show w.heap.size < X.heap.size by omega)).trans HXX.out; have u0 := cell_of hr7 0; have u1 := cell_of hr7 1; have u2 := cell_of hr7 2; have u3 := cell_of hr7 3; have u4 := cell_of hr7 4; have u5 := cell_of hr7 5; have u6 := cell_of hx7 1; have u7 := cell_of hx7 2; have t0 := cell_of hy7 0; have t1 := cell_of hy7 1; have t2 := cell_of hy7 2; have t3 := cell_of hy7 3; have t4 := cell_of hy7 4; have t5 := cell_of hy7 5; have v0 := frozen_of hy7 0; have v1 := frozen_of hy7 1; have v2 := frozen_of hy7 2; have v3 := frozen_of hy7 3; have v4 := frozen_of hy7 4; have v5 := frozen_of hy7 5; simp only [List.getElem?_toArray, List.getElem?_cons_succ, List.getElem?_cons_zero] at u0 u1 u2 u3 u4 u5 u6 u7 t0 t1 t2 t3 t4 t5; have R7 := Lib.hid hp7; have HY7 := Lib.hid hy7; have B7 := Lib.hid (HXB.out.trans ((Below.refl _ _).drew.trans (hb7.mono HXB.out.size))); clear hr7 hy7 hx7 hb7 hp7))
            go_wp2_with fail
            refine bodyPost_ret (results_tmp_cell rfl _ _ (w.heap.size + 1) _ _ _ _ rfl (store6 _ _ _ _ _ _ HY7.out) Tryz.underlying40 rfl infoRep) rfl ?_
            rw [HDK.out.1, HDK.out.2, HV.out.2]
            refine ⟨_, .slice none 0 0, ?_, Prs.of_owns (owns_set6 R7.out HY7.out (by decide) _ _ _ _ _ _), prs_nil _, below6 B7.out (by omega) _ _ _ _ _ _⟩
            rw [HV.out.1]; rfl
          · have ho : (gv.toList == old.toList) = false := by rw [beq_lists, decide_eq_false hv]
            have HO := Lib.hid hv
            clear hv
            go_wp2_with fail
            refine (get_ref w4 _ m key (HP.out.below B4.out) (by omega)).mono ?_
            rw [← HG.out]
            rintro e w6 ⟨rfl, rfl⟩
            have HV := Lib.hid (keyed_vals HG.out true (show hit ⟨2, key, value, old⟩ (gv, true) = true by simp [hit, HO.out]) (.slice none 0 0))
            dsimp only
            go_wp2_with fail
            obtain ⟨X, hX⟩ : ∃ X, X = (w6.alloc (.cells #[.int .i64 0, .bool true, .bool true, .string gv, .int .i64 0, .slice none 0 0] 40)) := ⟨_, rfl⟩
            have hXR : X.heap[w6.heap.size]? = some (.cells #[.int .i64 0, .bool true, .bool true, .string gv, .int .i64 0, .slice none 0 0] 40 (0, 0)) := by rw [hX]; exact heap_alloc_new w6 _
            have hXY : X.heap[w.heap.size + 1]? = some (.cells #[.int .i64 0, .bool false, .bool false, .string ⟨#[]⟩, .int .i64 0, .slice none 0 0] 40 (0, 0)) := by rw [hX]; exact HY5.out true
            have hXX : X.heap[w.heap.size]? = some (.cells #[.int .i64 2, .string key, .string value, .string old] 42 (0, 0)) := by rw [hX]; exact HX5.out true
            have hXB : Below w.heap.size w X := by rw [hX]; exact B4.out.alloc (by omega) _
            rw [← hX]
            have s0 := cell_of hXR 0
            have s1 := cell_of hXR 1
            have s2 := cell_of hXR 2
            have s3 := cell_of hXR 3
            have s4 := cell_of hXR 4
            have s5 := cell_of hXR 5
            have s6 := cell_of hXX 1
            have s7 := cell_of hXX 2
            simp only [List.getElem?_toArray, List.getElem?_cons_succ, List.getElem?_cons_zero] at s0 s1 s2 s3 s4 s5 s6 s7
            have hXl : w6.heap.size < X.heap.size := (Array.getElem?_eq_some_iff.1 hXR).1
            have HXR := Lib.hid hXR
            have HXY := Lib.hid hXY
            have HXX := Lib.hid hXX
            have HXB := Lib.hid hXB
            clear hXX hXB hX g0 g1 g2 g3 f0 f1 f2 f3
            have HPX := Lib.hid (HP.out.below HXB.out.drew)
            clear hXR hXY
            go_region_held3 (fun w' => w'.cell? ⟨w6.heap.size, 0, none⟩ = some (.int .i64 0) ∧ w'.cell? ⟨w6.heap.size, 1, none⟩ = some (.bool true) ∧ w'.cell? ⟨w6.heap.size, 2, none⟩ = some (.bool true) ∧ w'.cell? ⟨w6.heap.size, 3, none⟩ = some (.string gv) ∧ w'.cell? ⟨w6.heap.size, 4, none⟩ = some (.int .i64 0) ∧ w'.cell? ⟨w6.heap.size, 5, none⟩ = some (.slice none 0 0) ∧ w'.cell? ⟨w.heap.size, 1, none⟩ = some (.string key) ∧ w'.cell? ⟨w.heap.size, 2, none⟩ = some (.string value))
              (first | (go_split_ands; refine ⟨?_, ?_, ?_, ?_, ?_, ?_, ?_, ?_⟩ <;> with_reducible assumption) | (go_split_ands; refine ⟨?_, ?_, ?_, ?_, ?_, ?_, ?_, ?_⟩ <;> (rw [cell6 _ _ _ _ _ _ (by omega)]; with_reducible assumption)) | (go_split_ands; refine ⟨?_, ?_, ?_, ?_, ?_, ?_, ?_, ?_⟩ <;> (rw [cell6d _ _ _ _ _ _ (by omega)]; with_reducible assumption)) | go_keep)
              ((go_at_call 54; refine (put_ref _ _ m key value HPX.out (by omega)).mono ?_; rw [ins_rdel HS.out]; rintro e w7 ⟨v7, rfl, hp7, hb7⟩; have hr7 := (hb7.block _ hXl).trans HXR.out; have hy7 := (hb7.block (w.heap.size + 1) (show w.heap.size + 1 < X.heap.size by omega)).trans HXY.out; have hx7 := (hb7.block w.heap.size (show w.heap.size < X.heap.size by omega)).trans HXX.out; have u0 := cell_of hr7 0; have u1 := cell_of hr7 1; have u2 := cell_of hr7 2; have u3 := cell_of hr7 3; have u4 := cell_of hr7 4; have u5 := cell_of hr7 5; have u6 := cell_of hx7 1; have u7 := cell_of hx7 2; have t0 := cell_of hy7 0; have t1 := cell_of hy7 1; have t2 := cell_of hy7 2; have t3 := cell_of hy7 3; have t4 := cell_of hy7 4; have t5 := cell_of hy7 5; have v0 := frozen_of hy7 0; have v1 := frozen_of hy7 1; have v2 := frozen_of hy7 2; have v3 := frozen_of hy7 3; have v4 := frozen_of hy7 4; have v5 := frozen_of hy7 5; simp only [List.getElem?_toArray, List.getElem?_cons_succ, List.getElem?_cons_zero] at u0 u1 u2 u3 u4 u5 u6 u7 t0 t1 t2 t3 t4 t5; have R7 := Lib.hid hp7; have HY7 := Lib.hid hy7; have B7 := Lib.hid (HXB.out.trans ((Below.refl _ _).drew.trans (hb7.mono HXB.out.size))); clear hr7 hy7 hx7 hb7 hp7))
            go_wp2_with fail
            refine bodyPost_ret (results_tmp_cell rfl _ _ (w.heap.size + 1) _ _ _ _ rfl (store6 _ _ _ _ _ _ HY7.out) Tryz.underlying40 rfl infoRep) rfl ?_
            rw [HDK.out.1, HDK.out.2, HV.out.2]
            refine ⟨_, .slice none 0 0, ?_, Prs.of_owns (owns_set6 R7.out HY7.out (by decide) _ _ _ _ _ _), prs_nil _, below6 B7.out (by omega) _ _ _ _ _ _⟩
            rw [HV.out.1]; rfl
      · cases gh with
        | false =>
          go_wp2_with fail
          refine (get_ref w4 _ m key (HP.out.below B4.out) (by omega)).mono ?_
          rw [← HG.out]
          rintro e w6 ⟨rfl, rfl⟩
          have HV := Lib.hid (keyed_vals HG.out true (show hit ⟨3, key, value, old⟩ (gv, false) = true by simp [hit]) (.slice none 0 0))
          dsimp only
          go_wp2_with fail
          obtain ⟨X, hX⟩ : ∃ X, X = (w6.alloc (.cells #[.int .i64 0, .bool false, .bool true, .string gv, .int .i64 0, .slice none 0 0] 40)) := ⟨_, rfl⟩
          have hXR : X.heap[w6.heap.size]? = some (.cells #[.int .i64 0, .bool false, .bool true, .string gv, .int .i64 0, .slice none 0 0] 40 (0, 0)) := by rw [hX]; exact heap_alloc_new w6 _
          have hXY : X.heap[w.heap.size + 1]? = some (.cells #[.int .i64 0, .bool false, .bool false, .string ⟨#[]⟩, .int .i64 0, .slice none 0 0] 40 (0, 0)) := by rw [hX]; exact HY5.out true
          have hXX : X.heap[w.heap.size]? = some (.cells #[.int .i64 3, .string key, .string value, .string old] 42 (0, 0)) := by rw [hX]; exact HX5.out true
          have hXB : Below w.heap.size w X := by rw [hX]; exact B4.out.alloc (by omega) _
          rw [← hX]
          have s0 := cell_of hXR 0
          have s1 := cell_of hXR 1
          have s2 := cell_of hXR 2
          have s3 := cell_of hXR 3
          have s4 := cell_of hXR 4
          have s5 := cell_of hXR 5
          have s6 := cell_of hXX 1
          have s7 := cell_of hXX 2
          simp only [List.getElem?_toArray, List.getElem?_cons_succ, List.getElem?_cons_zero] at s0 s1 s2 s3 s4 s5 s6 s7
          have hXl : w6.heap.size < X.heap.size := (Array.getElem?_eq_some_iff.1 hXR).1
          have HXR := Lib.hid hXR
          have HXY := Lib.hid hXY
          have HXX := Lib.hid hXX
          have HXB := Lib.hid hXB
          clear hXX hXB hX g0 g1 g2 g3 f0 f1 f2 f3
          have HPX := Lib.hid (HP.out.below HXB.out.drew)
          clear hXR hXY
          go_region_held3 (fun w' => w'.cell? ⟨w6.heap.size, 0, none⟩ = some (.int .i64 0) ∧ w'.cell? ⟨w6.heap.size, 1, none⟩ = some (.bool false) ∧ w'.cell? ⟨w6.heap.size, 2, none⟩ = some (.bool true) ∧ w'.cell? ⟨w6.heap.size, 3, none⟩ = some (.string gv) ∧ w'.cell? ⟨w6.heap.size, 4, none⟩ = some (.int .i64 0) ∧ w'.cell? ⟨w6.heap.size, 5, none⟩ = some (.slice none 0 0) ∧ w'.cell? ⟨w.heap.size, 1, none⟩ = some (.string key) ∧ w'.cell? ⟨w.heap.size, 2, none⟩ = some (.string value))
            (first | (go_split_ands; refine ⟨?_, ?_, ?_, ?_, ?_, ?_, ?_, ?_⟩ <;> with_reducible assumption) | (go_split_ands; refine ⟨?_, ?_, ?_, ?_, ?_, ?_, ?_, ?_⟩ <;> (rw [cell6 _ _ _ _ _ _ (by omega)]; with_reducible assumption)) | (go_split_ands; refine ⟨?_, ?_, ?_, ?_, ?_, ?_, ?_, ?_⟩ <;> (rw [cell6d _ _ _ _ _ _ (by omega)]; with_reducible assumption)) | go_keep)
            ((go_at_call 54; refine (put_ref _ _ m key value HPX.out (by omega)).mono ?_; rw [ins_rdel HS.out]; rintro e w7 ⟨v7, rfl, hp7, hb7⟩; have hr7 := (hb7.block _ hXl).trans HXR.out; have hy7 := (hb7.block (w.heap.size + 1) (show w.heap.size + 1 < X.heap.size by omega)).trans HXY.out; have hx7 := (hb7.block w.heap.size (show w.heap.size < X.heap.size by omega)).trans HXX.out; have u0 := cell_of hr7 0; have u1 := cell_of hr7 1; have u2 := cell_of hr7 2; have u3 := cell_of hr7 3; have u4 := cell_of hr7 4; have u5 := cell_of hr7 5; have u6 := cell_of hx7 1; have u7 := cell_of hx7 2; have t0 := cell_of hy7 0; have t1 := cell_of hy7 1; have t2 := cell_of hy7 2; have t3 := cell_of hy7 3; have t4 := cell_of hy7 4; have t5 := cell_of hy7 5; have v0 := frozen_of hy7 0; have v1 := frozen_of hy7 1; have v2 := frozen_of hy7 2; have v3 := frozen_of hy7 3; have v4 := frozen_of hy7 4; have v5 := frozen_of hy7 5; simp only [List.getElem?_toArray, List.getElem?_cons_succ, List.getElem?_cons_zero] at u0 u1 u2 u3 u4 u5 u6 u7 t0 t1 t2 t3 t4 t5; have R7 := Lib.hid hp7; have HY7 := Lib.hid hy7; have B7 := Lib.hid (HXB.out.trans ((Below.refl _ _).drew.trans (hb7.mono HXB.out.size))); clear hr7 hy7 hx7 hb7 hp7))
          go_wp2_with fail
          refine bodyPost_ret (results_tmp_cell rfl _ _ (w.heap.size + 1) _ _ _ _ rfl (store6 _ _ _ _ _ _ HY7.out) Tryz.underlying40 rfl infoRep) rfl ?_
          rw [HDK.out.1, HDK.out.2, HV.out.2]
          refine ⟨_, .slice none 0 0, ?_, Prs.of_owns (owns_set6 R7.out HY7.out (by decide) _ _ _ _ _ _), prs_nil _, below6 B7.out (by omega) _ _ _ _ _ _⟩
          rw [HV.out.1]; rfl
        | true =>
          by_cases hv : gv = old
          · have ho : (gv.toList == old.toList) = true := by rw [hv]; exact beq_self_eq_true _
            have HO := Lib.hid hv
            clear hv
            go_wp2_with fail
            refine (get_ref w4 _ m key (HP.out.below B4.out) (by omega)).mono ?_
            rw [← HG.out]
            rintro e w6 ⟨rfl, rfl⟩
            have HV := Lib.hid (keyed_vals HG.out false (show hit ⟨3, key, value, old⟩ (gv, true) = false by simp [hit, HO.out]) (.slice none 0 0))
            dsimp only
            go_wp2_with fail
            obtain ⟨X, hX⟩ : ∃ X, X = (w6.alloc (.cells #[.int .i64 0, .bool true, .bool false, .string gv, .int .i64 0, .slice none 0 0] 40)) := ⟨_, rfl⟩
            have hXR : X.heap[w6.heap.size]? = some (.cells #[.int .i64 0, .bool true, .bool false, .string gv, .int .i64 0, .slice none 0 0] 40 (0, 0)) := by rw [hX]; exact heap_alloc_new w6 _
            have hXY : X.heap[w.heap.size + 1]? = some (.cells #[.int .i64 0, .bool false, .bool false, .string ⟨#[]⟩, .int .i64 0, .slice none 0 0] 40 (0, 0)) := by rw [hX]; exact HY5.out false
            have hXX : X.heap[w.heap.size]? = some (.cells #[.int .i64 3, .string key, .string value, .string old] 42 (0, 0)) := by rw [hX]; exact HX5.out false
            have hXB : Below w.heap.size w X := by rw [hX]; exact B4.out.alloc (by omega) _
            rw [← hX]
            have s0 := cell_of hXR 0
            have s1 := cell_of hXR 1
            have s2 := cell_of hXR 2
            have s3 := cell_of hXR 3
            have s4 := cell_of hXR 4
            have s5 := cell_of hXR 5
            have s6 := cell_of hXX 1
            have s7 := cell_of hXX 2
            simp only [List.getElem?_toArray, List.getElem?_cons_succ, List.getElem?_cons_zero] at s0 s1 s2 s3 s4 s5 s6 s7
            have hXl : w6.heap.size < X.heap.size := (Array.getElem?_eq_some_iff.1 hXR).1
            have HXR := Lib.hid hXR
            have HXY := Lib.hid hXY
            have HXX := Lib.hid hXX
            have HXB := Lib.hid hXB
            clear hXX hXB hX g0 g1 g2 g3 f0 f1 f2 f3
            have t0 := cell_of hXY 0
            have t1 := cell_of hXY 1
            have t2 := cell_of hXY 2
            have t3 := cell_of hXY 3
            have t4 := cell_of hXY 4
            have t5 := cell_of hXY 5
            have v0 := frozen_of hXY 0
            have v1 := frozen_of hXY 1
            have v2 := frozen_of hXY 2
            have v3 := frozen_of hXY 3
            have v4 := frozen_of hXY 4
            have v5 := frozen_of hXY 5
            simp only [List.getElem?_toArray, List.getElem?_cons_succ, List.getElem?_cons_zero] at t0 t1 t2 t3 t4 t5
            clear hXR hXY
            go_region_held3 (fun w' => w'.cell? ⟨w6.heap.size, 0, none⟩ = some (.int .i64 0) ∧ w'.cell? ⟨w6.heap.size, 1, none⟩ = some (.bool true) ∧ w'.cell? ⟨w6.heap.size, 2, none⟩ = some (.bool false) ∧ w'.cell? ⟨w6.heap.size, 3, none⟩ = some (.string gv) ∧ w'.cell? ⟨w6.heap.size, 4, none⟩ = some (.int .i64 0) ∧ w'.cell? ⟨w6.heap.size, 5, none⟩ = some (.slice none 0 0) ∧ w'.cell? ⟨w.heap.size, 1, none⟩ = some (.string key) ∧ w'.cell? ⟨w.heap.size, 2, none⟩ = some (.string value))
              (first | (go_split_ands; refine ⟨?_, ?_, ?_, ?_, ?_, ?_, ?_, ?_⟩ <;> with_reducible assumption) | (go_split_ands; refine ⟨?_, ?_, ?_, ?_, ?_, ?_, ?_, ?_⟩ <;> (rw [cell6 _ _ _ _ _ _ (by omega)]; with_reducible assumption)) | (go_split_ands; refine ⟨?_, ?_, ?_, ?_, ?_, ?_, ?_, ?_⟩ <;> (rw [cell6d _ _ _ _ _ _ (by omega)]; with_reducible assumption)) | go_keep)
              (fail)
            go_wp2_with fail
            have hZ : ((((((X.setCell ⟨w.heap.size + 1, 0, none⟩ (.int .i64 0)).setCell ⟨w.heap.size + 1, 1, none⟩ (.bool true)).setCell ⟨w.heap.size + 1, 2, none⟩ (.bool false)).setCell ⟨w.heap.size + 1, 3, none⟩ (.string gv)).setCell ⟨w.heap.size + 1, 4, none⟩ (.int .i64 0)).setCell ⟨w.heap.size + 1, 5, none⟩ (.slice none 0 0)).drew.heap[w.heap.size + 1]? = some (.cells #[.int .i64 0, .bool true, .bool false, .string gv, .int .i64 0, .slice none 0 0] 40 (0, 0)) := (heap_drew _ _).trans (store6 _ _ _ _ _ _ HXY.out)
            have hbf : Below w.heap.size w ((((((X.setCell ⟨w.heap.size + 1, 0, none⟩ (.int .i64 0)).setCell ⟨w.heap.size + 1, 1, none⟩ (.bool true)).setCell ⟨w.heap.size + 1, 2, none⟩ (.bool false)).setCell ⟨w.heap.size + 1, 3, none⟩ (.string gv)).setCell ⟨w.heap.size + 1, 4, none⟩ (.int .i64 0)).setCell ⟨w.heap.size + 1, 5, none⟩ (.slice none 0 0)).drew := (below6 HXB.out (by omega) _ _ _ _ _ _).drew
            refine bodyPost_ret (results_tmp_cell rfl _ _ (w.heap.size + 1) _ _ _ _ rfl hZ Tryz.underlying40 rfl infoRep) rfl ?_
            rw [HDK.out.1, HDK.out.2, HV.out.2]
            refine ⟨_, .slice none 0 0, ?_, HP.out.below hbf, prs_nil _, hbf⟩
            rw [HV.out.1]; rfl
          · have ho : (gv.toList == old.toList) = false := by rw [beq_lists, decide_eq_false hv]
            have HO := Lib.hid hv
            clear hv
            go_wp2_with fail
            refine (get_ref w4 _ m key (HP.out.below B4.out) (by omega)).mono ?_
            rw [← HG.out]
            rintro e w6 ⟨rfl, rfl⟩
            have HV := Lib.hid (keyed_vals HG.out false (show hit ⟨3, key, value, old⟩ (gv, true) = false by simp [hit, HO.out]) (.slice none 0 0))
            dsimp only
            go_wp2_with fail
            obtain ⟨X, hX⟩ : ∃ X, X = (w6.alloc (.cells #[.int .i64 0, .bool true, .bool false, .string gv, .int .i64 0, .slice none 0 0] 40)) := ⟨_, rfl⟩
            have hXR : X.heap[w6.heap.size]? = some (.cells #[.int .i64 0, .bool true, .bool false, .string gv, .int .i64 0, .slice none 0 0] 40 (0, 0)) := by rw [hX]; exact heap_alloc_new w6 _
            have hXY : X.heap[w.heap.size + 1]? = some (.cells #[.int .i64 0, .bool false, .bool false, .string ⟨#[]⟩, .int .i64 0, .slice none 0 0] 40 (0, 0)) := by rw [hX]; exact HY5.out false
            have hXX : X.heap[w.heap.size]? = some (.cells #[.int .i64 3, .string key, .string value, .string old] 42 (0, 0)) := by rw [hX]; exact HX5.out false
            have hXB : Below w.heap.size w X := by rw [hX]; exact B4.out.alloc (by omega) _
            rw [← hX]
            have s0 := cell_of hXR 0
            have s1 := cell_of hXR 1
            have s2 := cell_of hXR 2
            have s3 := cell_of hXR 3
            have s4 := cell_of hXR 4
            have s5 := cell_of hXR 5
            have s6 := cell_of hXX 1
            have s7 := cell_of hXX 2
            simp only [List.getElem?_toArray, List.getElem?_cons_succ, List.getElem?_cons_zero] at s0 s1 s2 s3 s4 s5 s6 s7
            have hXl : w6.heap.size < X.heap.size := (Array.getElem?_eq_some_iff.1 hXR).1
            have HXR := Lib.hid hXR
            have HXY := Lib.hid hXY
            have HXX := Lib.hid hXX
            have HXB := Lib.hid hXB
            clear hXX hXB hX g0 g1 g2 g3 f0 f1 f2 f3
            have t0 := cell_of hXY 0
            have t1 := cell_of hXY 1
            have t2 := cell_of hXY 2
            have t3 := cell_of hXY 3
            have t4 := cell_of hXY 4
            have t5 := cell_of hXY 5
            have v0 := frozen_of hXY 0
            have v1 := frozen_of hXY 1
            have v2 := frozen_of hXY 2
            have v3 := frozen_of hXY 3
            have v4 := frozen_of hXY 4
            have v5 := frozen_of hXY 5
            simp only [List.getElem?_toArray, List.getElem?_cons_succ, List.getElem?_cons_zero] at t0 t1 t2 t3 t4 t5
            clear hXR hXY
            go_region_held3 (fun w' => w'.cell? ⟨w6.heap.size, 0, none⟩ = some (.int .i64 0) ∧ w'.cell? ⟨w6.heap.size, 1, none⟩ = some (.bool true) ∧ w'.cell? ⟨w6.heap.size, 2, none⟩ = some (.bool false) ∧ w'.cell? ⟨w6.heap.size, 3, none⟩ = some (.string gv) ∧ w'.cell? ⟨w6.heap.size, 4, none⟩ = some (.int .i64 0) ∧ w'.cell? ⟨w6.heap.size, 5, none⟩ = some (.slice none 0 0) ∧ w'.cell? ⟨w.heap.size, 1, none⟩ = some (.string key) ∧ w'.cell? ⟨w.heap.size, 2, none⟩ = some (.string value))
              (first | (go_split_ands; refine ⟨?_, ?_, ?_, ?_, ?_, ?_, ?_, ?_⟩ <;> with_reducible assumption) | (go_split_ands; refine ⟨?_, ?_, ?_, ?_, ?_, ?_, ?_, ?_⟩ <;> (rw [cell6 _ _ _ _ _ _ (by omega)]; with_reducible assumption)) | (go_split_ands; refine ⟨?_, ?_, ?_, ?_, ?_, ?_, ?_, ?_⟩ <;> (rw [cell6d _ _ _ _ _ _ (by omega)]; with_reducible assumption)) | go_keep)
              (fail)
            go_wp2_with fail
            have hZ : ((((((X.setCell ⟨w.heap.size + 1, 0, none⟩ (.int .i64 0)).setCell ⟨w.heap.size + 1, 1, none⟩ (.bool true)).setCell ⟨w.heap.size + 1, 2, none⟩ (.bool false)).setCell ⟨w.heap.size + 1, 3, none⟩ (.string gv)).setCell ⟨w.heap.size + 1, 4, none⟩ (.int .i64 0)).setCell ⟨w.heap.size + 1, 5, none⟩ (.slice none 0 0)).drew.heap[w.heap.size + 1]? = some (.cells #[.int .i64 0, .bool true, .bool false, .string gv, .int .i64 0, .slice none 0 0] 40 (0, 0)) := (heap_drew _ _).trans (store6 _ _ _ _ _ _ HXY.out)
            have hbf : Below w.heap.size w ((((((X.setCell ⟨w.heap.size + 1, 0, none⟩ (.int .i64 0)).setCell ⟨w.heap.size + 1, 1, none⟩ (.bool true)).setCell ⟨w.heap.size + 1, 2, none⟩ (.bool false)).setCell ⟨w.heap.size + 1, 3, none⟩ (.string gv)).setCell ⟨w.heap.size + 1, 4, none⟩ (.int .i64 0)).setCell ⟨w.heap.size + 1, 5, none⟩ (.slice none 0 0)).drew := (below6 HXB.out (by omega) _ _ _ _ _ _).drew
            refine bodyPost_ret (results_tmp_cell rfl _ _ (w.heap.size + 1) _ _ _ _ rfl hZ Tryz.underlying40 rfl infoRep) rfl ?_
            rw [HDK.out.1, HDK.out.2, HV.out.2]
            refine ⟨_, .slice none 0 0, ?_, HP.out.below hbf, prs_nil _, hbf⟩
            rw [HV.out.1]; rfl
      · cases gh with
        | false =>
          go_wp2_with fail
          refine (get_ref w4 _ m key (HP.out.below B4.out) (by omega)).mono ?_
          rw [← HG.out]
          rintro e w6 ⟨rfl, rfl⟩
          have HV := Lib.hid (keyed_vals HG.out false (show hit ⟨4, key, value, old⟩ (gv, false) = false by simp [hit]) (.slice none 0 0))
          dsimp only
          go_wp2_with fail
          obtain ⟨X, hX⟩ : ∃ X, X = (w6.alloc (.cells #[.int .i64 0, .bool false, .bool false, .string gv, .int .i64 0, .slice none 0 0] 40)) := ⟨_, rfl⟩
          have hXR : X.heap[w6.heap.size]? = some (.cells #[.int .i64 0, .bool false, .bool false, .string gv, .int .i64 0, .slice none 0 0] 40 (0, 0)) := by rw [hX]; exact heap_alloc_new w6 _
          have hXY : X.heap[w.heap.size + 1]? = some (.cells #[.int .i64 0, .bool false, .bool false, .string ⟨#[]⟩, .int .i64 0, .slice none 0 0] 40 (0, 0)) := by rw [hX]; exact HY5.out false
          have hXX : X.heap[w.heap.size]? = some (.cells #[.int .i64 4, .string key, .string value, .string old] 42 (0, 0)) := by rw [hX]; exact HX5.out false
          have hXB : Below w.heap.size w X := by rw [hX]; exact B4.out.alloc (by omega) _
          rw [← hX]
          have s0 := cell_of hXR 0
          have s1 := cell_of hXR 1
          have s2 := cell_of hXR 2
          have s3 := cell_of hXR 3
          have s4 := cell_of hXR 4
          have s5 := cell_of hXR 5
          have s6 := cell_of hXX 1
          have s7 := cell_of hXX 2
          simp only [List.getElem?_toArray, List.getElem?_cons_succ, List.getElem?_cons_zero] at s0 s1 s2 s3 s4 s5 s6 s7
          have hXl : w6.heap.size < X.heap.size := (Array.getElem?_eq_some_iff.1 hXR).1
          have HXR := Lib.hid hXR
          have HXY := Lib.hid hXY
          have HXX := Lib.hid hXX
          have HXB := Lib.hid hXB
          clear hXX hXB hX g0 g1 g2 g3 f0 f1 f2 f3
          have t0 := cell_of hXY 0
          have t1 := cell_of hXY 1
          have t2 := cell_of hXY 2
          have t3 := cell_of hXY 3
          have t4 := cell_of hXY 4
          have t5 := cell_of hXY 5
          have v0 := frozen_of hXY 0
          have v1 := frozen_of hXY 1
          have v2 := frozen_of hXY 2
          have v3 := frozen_of hXY 3
          have v4 := frozen_of hXY 4
          have v5 := frozen_of hXY 5
          simp only [List.getElem?_toArray, List.getElem?_cons_succ, List.getElem?_cons_zero] at t0 t1 t2 t3 t4 t5
          clear hXR hXY
          go_region_held3 (fun w' => w'.cell? ⟨w6.heap.size, 0, none⟩ = some (.int .i64 0) ∧ w'.cell? ⟨w6.heap.size, 1, none⟩ = some (.bool false) ∧ w'.cell? ⟨w6.heap.size, 2, none⟩ = some (.bool false) ∧ w'.cell? ⟨w6.heap.size, 3, none⟩ = some (.string gv) ∧ w'.cell? ⟨w6.heap.size, 4, none⟩ = some (.int .i64 0) ∧ w'.cell? ⟨w6.heap.size, 5, none⟩ = some (.slice none 0 0) ∧ w'.cell? ⟨w.heap.size, 1, none⟩ = some (.string key) ∧ w'.cell? ⟨w.heap.size, 2, none⟩ = some (.string value))
            (first | (go_split_ands; refine ⟨?_, ?_, ?_, ?_, ?_, ?_, ?_, ?_⟩ <;> with_reducible assumption) | (go_split_ands; refine ⟨?_, ?_, ?_, ?_, ?_, ?_, ?_, ?_⟩ <;> (rw [cell6 _ _ _ _ _ _ (by omega)]; with_reducible assumption)) | (go_split_ands; refine ⟨?_, ?_, ?_, ?_, ?_, ?_, ?_, ?_⟩ <;> (rw [cell6d _ _ _ _ _ _ (by omega)]; with_reducible assumption)) | go_keep)
            (fail)
          go_wp2_with fail
          have hZ : ((((((X.setCell ⟨w.heap.size + 1, 0, none⟩ (.int .i64 0)).setCell ⟨w.heap.size + 1, 1, none⟩ (.bool false)).setCell ⟨w.heap.size + 1, 2, none⟩ (.bool false)).setCell ⟨w.heap.size + 1, 3, none⟩ (.string gv)).setCell ⟨w.heap.size + 1, 4, none⟩ (.int .i64 0)).setCell ⟨w.heap.size + 1, 5, none⟩ (.slice none 0 0)).drew.heap[w.heap.size + 1]? = some (.cells #[.int .i64 0, .bool false, .bool false, .string gv, .int .i64 0, .slice none 0 0] 40 (0, 0)) := (heap_drew _ _).trans (store6 _ _ _ _ _ _ HXY.out)
          have hbf : Below w.heap.size w ((((((X.setCell ⟨w.heap.size + 1, 0, none⟩ (.int .i64 0)).setCell ⟨w.heap.size + 1, 1, none⟩ (.bool false)).setCell ⟨w.heap.size + 1, 2, none⟩ (.bool false)).setCell ⟨w.heap.size + 1, 3, none⟩ (.string gv)).setCell ⟨w.heap.size + 1, 4, none⟩ (.int .i64 0)).setCell ⟨w.heap.size + 1, 5, none⟩ (.slice none 0 0)).drew := (below6 HXB.out (by omega) _ _ _ _ _ _).drew
          refine bodyPost_ret (results_tmp_cell rfl _ _ (w.heap.size + 1) _ _ _ _ rfl hZ Tryz.underlying40 rfl infoRep) rfl ?_
          rw [HDK.out.1, HDK.out.2, HV.out.2]
          refine ⟨_, .slice none 0 0, ?_, HP.out.below hbf, prs_nil _, hbf⟩
          rw [HV.out.1]; rfl
        | true =>
          by_cases hv : gv = old
          · have ho : (gv.toList == old.toList) = true := by rw [hv]; exact beq_self_eq_true _
            have HO := Lib.hid hv
            clear hv
            go_wp2_with fail
            refine (get_ref w4 _ m key (HP.out.below B4.out) (by omega)).mono ?_
            rw [← HG.out]
            rintro e w6 ⟨rfl, rfl⟩
            have HV := Lib.hid (keyed_vals HG.out true (show hit ⟨4, key, value, old⟩ (gv, true) = true by simp [hit, HO.out]) (.slice none 0 0))
            dsimp only
            go_wp2_with fail
            obtain ⟨X, hX⟩ : ∃ X, X = (w6.alloc (.cells #[.int .i64 0, .bool true, .bool true, .string gv, .int .i64 0, .slice none 0 0] 40)) := ⟨_, rfl⟩
            have hXR : X.heap[w6.heap.size]? = some (.cells #[.int .i64 0, .bool true, .bool true, .string gv, .int .i64 0, .slice none 0 0] 40 (0, 0)) := by rw [hX]; exact heap_alloc_new w6 _
            have hXY : X.heap[w.heap.size + 1]? = some (.cells #[.int .i64 0, .bool false, .bool false, .string ⟨#[]⟩, .int .i64 0, .slice none 0 0] 40 (0, 0)) := by rw [hX]; exact HY5.out true
            have hXX : X.heap[w.heap.size]? = some (.cells #[.int .i64 4, .string key, .string value, .string old] 42 (0, 0)) := by rw [hX]; exact HX5.out true
            have hXB : Below w.heap.size w X := by rw [hX]; exact B4.out.alloc (by omega) _
            rw [← hX]
            have s0 := cell_of hXR 0
            have s1 := cell_of hXR 1
            have s2 := cell_of hXR 2
            have s3 := cell_of hXR 3
            have s4 := cell_of hXR 4
            have s5 := cell_of hXR 5
            have s6 := cell_of hXX 1
            have s7 := cell_of hXX 2
            simp only [List.getElem?_toArray, List.getElem?_cons_succ, List.getElem?_cons_zero] at s0 s1 s2 s3 s4 s5 s6 s7
            have hXl : w6.heap.size < X.heap.size := (Array.getElem?_eq_some_iff.1 hXR).1
            have HXR := Lib.hid hXR
            have HXY := Lib.hid hXY
            have HXX := Lib.hid hXX
            have HXB := Lib.hid hXB
            clear hXX hXB hX g0 g1 g2 g3 f0 f1 f2 f3
            have HPX := Lib.hid (HP.out.below HXB.out.drew)
            clear hXR hXY
            go_region_held3 (fun w' => w'.cell? ⟨w6.heap.size, 0, none⟩ = some (.int .i64 0) ∧ w'.cell? ⟨w6.heap.size, 1, none⟩ = some (.bool true) ∧ w'.cell? ⟨w6.heap.size, 2, none⟩ = some (.bool true) ∧ w'.cell? ⟨w6.heap.size, 3, none⟩ = some (.string gv) ∧ w'.cell? ⟨w6.heap.size, 4, none⟩ = some (.int .i64 0) ∧ w'.cell? ⟨w6.heap.size, 5, none⟩ = some (.slice none 0 0) ∧ w'.cell? ⟨w.heap.size, 1, none⟩ = some (.string key) ∧ w'.cell? ⟨w.heap.size, 2, none⟩ = some (.string value))
              (first | (go_split_ands; refine ⟨?_, ?_, ?_, ?_, ?_, ?_, ?_, ?_⟩ <;> with_reducible assumption) | (go_split_ands; refine ⟨?_, ?_, ?_, ?_, ?_, ?_, ?_, ?_⟩ <;> (rw [cell6 _ _ _ _ _ _ (by omega)]; with_reducible assumption)) | (go_split_ands; refine ⟨?_, ?_, ?_, ?_, ?_, ?_, ?_, ?_⟩ <;> (rw [cell6d _ _ _ _ _ _ (by omega)]; with_reducible assumption)) | go_keep)
              ((go_at_call 54; refine (put_ref _ _ m key value HPX.out (by omega)).mono ?_; rw [ins_rdel HS.out]; rintro e w7 ⟨v7, rfl, hp7, hb7⟩; have hr7 := (hb7.block _ hXl).trans HXR.out; have hy7 := (hb7.block (w.heap.size + 1) (show w.heap.size + 1 < X.heap.size by omega)).trans HXY.out; have hx7 := (hb7.block w.heap.size (show w.heap.size < X.heap.size by omega)).trans HXX.out; have u0 := cell_of hr7 0; have u1 := cell_of hr7 1; have u2 := cell_of hr7 2; have u3 := cell_of hr7 3; have u4 := cell_of hr7 4; have u5 := cell_of hr7 5; have u6 := cell_of hx7 1; have u7 := cell_of hx7 2; have t0 := cell_of hy7 0; have t1 := cell_of hy7 1; have t2 := cell_of hy7 2; have t3 := cell_of hy7 3; have t4 := cell_of hy7 4; have t5 := cell_of hy7 5; have v0 := frozen_of hy7 0; have v1 := frozen_of hy7 1; have v2 := frozen_of hy7 2; have v3 := frozen_of hy7 3; have v4 := frozen_of hy7 4; have v5 := frozen_of hy7 5; simp only [List.getElem?_toArray, List.getElem?_cons_succ, List.getElem?_cons_zero] at u0 u1 u2 u3 u4 u5 u6 u7 t0 t1 t2 t3 t4 t5; have R7 := Lib.hid hp7; have HY7 := Lib.hid hy7; have B7 := Lib.hid (HXB.out.trans ((Below.refl _ _).drew.trans (hb7.mono HXB.out.size))); clear hr7 hy7 hx7 hb7 hp7))
            go_wp2_with fail
            refine bodyPost_ret (results_tmp_cell rfl _ _ (w.heap.size + 1) _ _ _ _ rfl (store6 _ _ _ _ _ _ HY7.out) Tryz.underlying40 rfl infoRep) rfl ?_
            rw [HDK.out.1, HDK.out.2, HV.out.2]
            refine ⟨_, .slice none 0 0, ?_, Prs.of_owns (owns_set6 R7.out HY7.out (by decide) _ _ _ _ _ _), prs_nil _, below6 B7.out (by omega) _ _ _ _ _ _⟩
            rw [HV.out.1]; rfl
          · have ho : (gv.toList == old.toList) = false := by rw [beq_lists, decide_eq_false hv]
            have HO := Lib.hid hv
            clear hv
            go_wp2_with fail
            refine (get_ref w4 _ m key (HP.out.below B4.out) (by omega)).mono ?_
            rw [← HG.out]
            rintro e w6 ⟨rfl, rfl⟩
            have HV := Lib.hid (keyed_vals HG.out true (show hit ⟨4, key, value, old⟩ (gv, true) = true by simp [hit, HO.out]) (.slice none 0 0))
            dsimp only
            go_wp2_with fail
            obtain ⟨X, hX⟩ : ∃ X, X = (w6.alloc (.cells #[.int .i64 0, .bool true, .bool true, .string gv, .int .i64 0, .slice none 0 0] 40)) := ⟨_, rfl⟩
            have hXR : X.heap[w6.heap.size]? = some (.cells #[.int .i64 0, .bool true, .bool true, .string gv, .int .i64 0, .slice none 0 0] 40 (0, 0)) := by rw [hX]; exact heap_alloc_new w6 _
            have hXY : X.heap[w.heap.size + 1]? = some (.cells #[.int .i64 0, .bool false, .bool false, .string ⟨#[]⟩, .int .i64 0, .slice none 0 0] 40 (0, 0)) := by rw [hX]; exact HY5.out true
            have hXX : X.heap[w.heap.size]? = some (.cells #[.int .i64 4, .string key, .string value, .string old] 42 (0, 0)) := by rw [hX]; exact HX5.out true
            have hXB : Below w.heap.size w X := by rw [hX]; exact B4.out.alloc (by omega) _
            rw [← hX]
            have s0 := cell_of hXR 0
            have s1 := cell_of hXR 1
            have s2 := cell_of hXR 2
            have s3 := cell_of hXR 3
            have s4 := cell_of hXR 4
            have s5 := cell_of hXR 5
            have s6 := cell_of hXX 1
            have s7 := cell_of hXX 2
            simp only [List.getElem?_toArray, List.getElem?_cons_succ, List.getElem?_cons_zero] at s0 s1 s2 s3 s4 s5 s6 s7
            have hXl : w6.heap.size < X.heap.size := (Array.getElem?_eq_some_iff.1 hXR).1
            have HXR := Lib.hid hXR
            have HXY := Lib.hid hXY
            have HXX := Lib.hid hXX
            have HXB := Lib.hid hXB
            clear hXX hXB hX g0 g1 g2 g3 f0 f1 f2 f3
            have HPX := Lib.hid (HP.out.below HXB.out.drew)
            clear hXR hXY
            go_region_held3 (fun w' => w'.cell? ⟨w6.heap.size, 0, none⟩ = some (.int .i64 0) ∧ w'.cell? ⟨w6.heap.size, 1, none⟩ = some (.bool true) ∧ w'.cell? ⟨w6.heap.size, 2, none⟩ = some (.bool true) ∧ w'.cell? ⟨w6.heap.size, 3, none⟩ = some (.string gv) ∧ w'.cell? ⟨w6.heap.size, 4, none⟩ = some (.int .i64 0) ∧ w'.cell? ⟨w6.heap.size, 5, none⟩ = some (.slice none 0 0) ∧ w'.cell? ⟨w.heap.size, 1, none⟩ = some (.string key) ∧ w'.cell? ⟨w.heap.size, 2, none⟩ = some (.string value))
              (first | (go_split_ands; refine ⟨?_, ?_, ?_, ?_, ?_, ?_, ?_, ?_⟩ <;> with_reducible assumption) | (go_split_ands; refine ⟨?_, ?_, ?_, ?_, ?_, ?_, ?_, ?_⟩ <;> (rw [cell6 _ _ _ _ _ _ (by omega)]; with_reducible assumption)) | (go_split_ands; refine ⟨?_, ?_, ?_, ?_, ?_, ?_, ?_, ?_⟩ <;> (rw [cell6d _ _ _ _ _ _ (by omega)]; with_reducible assumption)) | go_keep)
              ((go_at_call 54; refine (put_ref _ _ m key value HPX.out (by omega)).mono ?_; rw [ins_rdel HS.out]; rintro e w7 ⟨v7, rfl, hp7, hb7⟩; have hr7 := (hb7.block _ hXl).trans HXR.out; have hy7 := (hb7.block (w.heap.size + 1) (show w.heap.size + 1 < X.heap.size by omega)).trans HXY.out; have hx7 := (hb7.block w.heap.size (show w.heap.size < X.heap.size by omega)).trans HXX.out; have u0 := cell_of hr7 0; have u1 := cell_of hr7 1; have u2 := cell_of hr7 2; have u3 := cell_of hr7 3; have u4 := cell_of hr7 4; have u5 := cell_of hr7 5; have u6 := cell_of hx7 1; have u7 := cell_of hx7 2; have t0 := cell_of hy7 0; have t1 := cell_of hy7 1; have t2 := cell_of hy7 2; have t3 := cell_of hy7 3; have t4 := cell_of hy7 4; have t5 := cell_of hy7 5; have v0 := frozen_of hy7 0; have v1 := frozen_of hy7 1; have v2 := frozen_of hy7 2; have v3 := frozen_of hy7 3; have v4 := frozen_of hy7 4; have v5 := frozen_of hy7 5; simp only [List.getElem?_toArray, List.getElem?_cons_succ, List.getElem?_cons_zero] at u0 u1 u2 u3 u4 u5 u6 u7 t0 t1 t2 t3 t4 t5; have R7 := Lib.hid hp7; have HY7 := Lib.hid hy7; have B7 := Lib.hid (HXB.out.trans ((Below.refl _ _).drew.trans (hb7.mono HXB.out.size))); clear hr7 hy7 hx7 hb7 hp7))
            go_wp2_with fail
            refine bodyPost_ret (results_tmp_cell rfl _ _ (w.heap.size + 1) _ _ _ _ rfl (store6 _ _ _ _ _ _ HY7.out) Tryz.underlying40 rfl infoRep) rfl ?_
            rw [HDK.out.1, HDK.out.2, HV.out.2]
            refine ⟨_, .slice none 0 0, ?_, Prs.of_owns (owns_set6 R7.out HY7.out (by decide) _ _ _ _ _ _), prs_nil _, below6 B7.out (by omega) _ _ _ _ _ _⟩
            rw [HV.out.1]; rfl
      · cases gh with
        | false =>
          go_wp2_with fail
          refine (get_ref w4 _ m key (HP.out.below B4.out) (by omega)).mono ?_
          rw [← HG.out]
          rintro e w6 ⟨rfl, rfl⟩
          have HV := Lib.hid (keyed_vals HG.out false (show hit ⟨5, key, value, old⟩ (gv, false) = false by simp [hit]) (.slice none 0 0))
          dsimp only
          go_wp2_with fail
          obtain ⟨X, hX⟩ : ∃ X, X = (w6.alloc (.cells #[.int .i64 0, .bool false, .bool false, .string gv, .int .i64 0, .slice none 0 0] 40)) := ⟨_, rfl⟩
          have hXR : X.heap[w6.heap.size]? = some (.cells #[.int .i64 0, .bool false, .bool false, .string gv, .int .i64 0, .slice none 0 0] 40 (0, 0)) := by rw [hX]; exact heap_alloc_new w6 _
          have hXY : X.heap[w.heap.size + 1]? = some (.cells #[.int .i64 0, .bool false, .bool false, .string ⟨#[]⟩, .int .i64 0, .slice none 0 0] 40 (0, 0)) := by rw [hX]; exact HY5.out false
          have hXX : X.heap[w.heap.size]? = some (.cells #[.int .i64 5, .string key, .string value, .string old] 42 (0, 0)) := by rw [hX]; exact HX5.out false
          have hXB : Below w.heap.size w X := by rw [hX]; exact B4.out.alloc (by omega) _
          rw [← hX]
          have s0 := cell_of hXR 0
          have s1 := cell_of hXR 1
          have s2 := cell_of hXR 2
          have s3 := cell_of hXR 3
          have s4 := cell_of hXR 4
          have s5 := cell_of hXR 5
          have s6 := cell_of hXX 1
          have s7 := cell_of hXX 2
          simp only [List.getElem?_toArray, List.getElem?_cons_succ, List.getElem?_cons_zero] at s0 s1 s2 s3 s4 s5 s6 s7
          have hXl : w6.heap.size < X.heap.size := (Array.getElem?_eq_some_iff.1 hXR).1
          have HXR := Lib.hid hXR
          have HXY := Lib.hid hXY
          have HXX := Lib.hid hXX
          have HXB := Lib.hid hXB
          clear hXX hXB hX g0 g1 g2 g3 f0 f1 f2 f3
          have t0 := cell_of hXY 0
          have t1 := cell_of hXY 1
          have t2 := cell_of hXY 2
          have t3 := cell_of hXY 3
          have t4 := cell_of hXY 4
          have t5 := cell_of hXY 5
          have v0 := frozen_of hXY 0
          have v1 := frozen_of hXY 1
          have v2 := frozen_of hXY 2
          have v3 := frozen_of hXY 3
          have v4 := frozen_of hXY 4
          have v5 := frozen_of hXY 5
          simp only [List.getElem?_toArray, List.getElem?_cons_succ, List.getElem?_cons_zero] at t0 t1 t2 t3 t4 t5
          clear hXR hXY
          go_region_held3 (fun w' => w'.cell? ⟨w6.heap.size, 0, none⟩ = some (.int .i64 0) ∧ w'.cell? ⟨w6.heap.size, 1, none⟩ = some (.bool false) ∧ w'.cell? ⟨w6.heap.size, 2, none⟩ = some (.bool false) ∧ w'.cell? ⟨w6.heap.size, 3, none⟩ = some (.string gv) ∧ w'.cell? ⟨w6.heap.size, 4, none⟩ = some (.int .i64 0) ∧ w'.cell? ⟨w6.heap.size, 5, none⟩ = some (.slice none 0 0) ∧ w'.cell? ⟨w.heap.size, 1, none⟩ = some (.string key) ∧ w'.cell? ⟨w.heap.size, 2, none⟩ = some (.string value))
            (first | (go_split_ands; refine ⟨?_, ?_, ?_, ?_, ?_, ?_, ?_, ?_⟩ <;> with_reducible assumption) | (go_split_ands; refine ⟨?_, ?_, ?_, ?_, ?_, ?_, ?_, ?_⟩ <;> (rw [cell6 _ _ _ _ _ _ (by omega)]; with_reducible assumption)) | (go_split_ands; refine ⟨?_, ?_, ?_, ?_, ?_, ?_, ?_, ?_⟩ <;> (rw [cell6d _ _ _ _ _ _ (by omega)]; with_reducible assumption)) | go_keep)
            (fail)
          go_wp2_with fail
          have hZ : ((((((X.setCell ⟨w.heap.size + 1, 0, none⟩ (.int .i64 0)).setCell ⟨w.heap.size + 1, 1, none⟩ (.bool false)).setCell ⟨w.heap.size + 1, 2, none⟩ (.bool false)).setCell ⟨w.heap.size + 1, 3, none⟩ (.string gv)).setCell ⟨w.heap.size + 1, 4, none⟩ (.int .i64 0)).setCell ⟨w.heap.size + 1, 5, none⟩ (.slice none 0 0)).drew.heap[w.heap.size + 1]? = some (.cells #[.int .i64 0, .bool false, .bool false, .string gv, .int .i64 0, .slice none 0 0] 40 (0, 0)) := (heap_drew _ _).trans (store6 _ _ _ _ _ _ HXY.out)
          have hbf : Below w.heap.size w ((((((X.setCell ⟨w.heap.size + 1, 0, none⟩ (.int .i64 0)).setCell ⟨w.heap.size + 1, 1, none⟩ (.bool false)).setCell ⟨w.heap.size + 1, 2, none⟩ (.bool false)).setCell ⟨w.heap.size + 1, 3, none⟩ (.string gv)).setCell ⟨w.heap.size + 1, 4, none⟩ (.int .i64 0)).setCell ⟨w.heap.size + 1, 5, none⟩ (.slice none 0 0)).drew := (below6 HXB.out (by omega) _ _ _ _ _ _).drew
          refine bodyPost_ret (results_tmp_cell rfl _ _ (w.heap.size + 1) _ _ _ _ rfl hZ Tryz.underlying40 rfl infoRep) rfl ?_
          rw [HDK.out.1, HDK.out.2, HV.out.2]
          refine ⟨_, .slice none 0 0, ?_, HP.out.below hbf, prs_nil _, hbf⟩
          rw [HV.out.1]; rfl
        | true =>
          by_cases hv : gv = old
          · have ho : (gv.toList == old.toList) = true := by rw [hv]; exact beq_self_eq_true _
            have HO := Lib.hid hv
            clear hv
            go_wp2_with fail
            refine (get_ref w4 _ m key (HP.out.below B4.out) (by omega)).mono ?_
            rw [← HG.out]
            rintro e w6 ⟨rfl, rfl⟩
            have HV := Lib.hid (keyed_vals HG.out true (show hit ⟨5, key, value, old⟩ (gv, true) = true by simp [hit, HO.out]) (.slice none 0 0))
            dsimp only
            go_wp2_with fail
            obtain ⟨X, hX⟩ : ∃ X, X = (w6.alloc (.cells #[.int .i64 0, .bool true, .bool true, .string gv, .int .i64 0, .slice none 0 0] 40)) := ⟨_, rfl⟩
            have hXR : X.heap[w6.heap.size]? = some (.cells #[.int .i64 0, .bool true, .bool true, .string gv, .int .i64 0, .slice none 0 0] 40 (0, 0)) := by rw [hX]; exact heap_alloc_new w6 _
            have hXY : X.heap[w.heap.size + 1]? = some (.cells #[.int .i64 0, .bool false, .bool false, .string ⟨#[]⟩, .int .i64 0, .slice none 0 0] 40 (0, 0)) := by rw [hX]; exact HY5.out true
            have hXX : X.heap[w.heap.size]? = some (.cells #[.int .i64 5, .string key, .string value, .string old] 42 (0, 0)) := by rw [hX]; exact HX5.out true
            have hXB : Below w.heap.size w X := by rw [hX]; exact B4.out.alloc (by omega) _
            rw [← hX]
            have s0 := cell_of hXR 0
            have s1 := cell_of hXR 1
            have s2 := cell_of hXR 2
            have s3 := cell_of hXR 3
            have s4 := cell_of hXR 4
            have s5 := cell_of hXR 5
            have s6 := cell_of hXX 1
            have s7 := cell_of hXX 2
            simp only [List.getElem?_toArray, List.getElem?_cons_succ, List.getElem?_cons_zero] at s0 s1 s2 s3 s4 s5 s6 s7
            have hXl : w6.heap.size < X.heap.size := (Array.getElem?_eq_some_iff.1 hXR).1
            have HXR := Lib.hid hXR
            have HXY := Lib.hid hXY
            have HXX := Lib.hid hXX
            have HXB := Lib.hid hXB
            clear hXX hXB hX g0 g1 g2 g3 f0 f1 f2 f3
            have HPX := Lib.hid (HP.out.below HXB.out.drew)
            clear hXR hXY
            go_region_held3 (fun w' => w'.cell? ⟨w6.heap.size, 0, none⟩ = some (.int .i64 0) ∧ w'.cell? ⟨w6.heap.size, 1, none⟩ = some (.bool true) ∧ w'.cell? ⟨w6.heap.size, 2, none⟩ = some (.bool true) ∧ w'.cell? ⟨w6.heap.size, 3, none⟩ = some (.string gv) ∧ w'.cell? ⟨w6.heap.size, 4, none⟩ = some (.int .i64 0) ∧ w'.cell? ⟨w6.heap.size, 5, none⟩ = some (.slice none 0 0) ∧ w'.cell? ⟨w.heap.size, 1, none⟩ = some (.string key) ∧ w'.cell? ⟨w.heap.size, 2, none⟩ = some (.string value))
              (first | (go_split_ands; refine ⟨?_, ?_, ?_, ?_, ?_, ?_, ?_, ?_⟩ <;> with_reducible assumption) | (go_split_ands; refine ⟨?_, ?_, ?_, ?_, ?_, ?_, ?_, ?_⟩ <;> (rw [cell6 _ _ _ _ _ _ (by omega)]; with_reducible assumption)) | (go_split_ands; refine ⟨?_, ?_, ?_, ?_, ?_, ?_, ?_, ?_⟩ <;> (rw [cell6d _ _ _ _ _ _ (by omega)]; with_reducible assumption)) | go_keep)
              ((go_at_call 54; refine (put_ref _ _ m key value HPX.out (by omega)).mono ?_; rw [ins_rdel HS.out]; rintro e w7 ⟨v7, rfl, hp7, hb7⟩; have hr7 := (hb7.block _ hXl).trans HXR.out; have hy7 := (hb7.block (w.heap.size + 1) (show w.heap.size + 1 < X.heap.size by omega)).trans HXY.out; have hx7 := (hb7.block w.heap.size (show w.heap.size < X.heap.size by omega)).trans HXX.out; have u0 := cell_of hr7 0; have u1 := cell_of hr7 1; have u2 := cell_of hr7 2; have u3 := cell_of hr7 3; have u4 := cell_of hr7 4; have u5 := cell_of hr7 5; have u6 := cell_of hx7 1; have u7 := cell_of hx7 2; have t0 := cell_of hy7 0; have t1 := cell_of hy7 1; have t2 := cell_of hy7 2; have t3 := cell_of hy7 3; have t4 := cell_of hy7 4; have t5 := cell_of hy7 5; have v0 := frozen_of hy7 0; have v1 := frozen_of hy7 1; have v2 := frozen_of hy7 2; have v3 := frozen_of hy7 3; have v4 := frozen_of hy7 4; have v5 := frozen_of hy7 5; simp only [List.getElem?_toArray, List.getElem?_cons_succ, List.getElem?_cons_zero] at u0 u1 u2 u3 u4 u5 u6 u7 t0 t1 t2 t3 t4 t5; have R7 := Lib.hid hp7; have HY7 := Lib.hid hy7; have B7 := Lib.hid (HXB.out.trans ((Below.refl _ _).drew.trans (hb7.mono HXB.out.size))); clear hr7 hy7 hx7 hb7 hp7))
            go_wp2_with fail
            refine bodyPost_ret (results_tmp_cell rfl _ _ (w.heap.size + 1) _ _ _ _ rfl (store6 _ _ _ _ _ _ HY7.out) Tryz.underlying40 rfl infoRep) rfl ?_
            rw [HDK.out.1, HDK.out.2, HV.out.2]
            refine ⟨_, .slice none 0 0, ?_, Prs.of_owns (owns_set6 R7.out HY7.out (by decide) _ _ _ _ _ _), prs_nil _, below6 B7.out (by omega) _ _ _ _ _ _⟩
            rw [HV.out.1]; rfl
          · have ho : (gv.toList == old.toList) = false := by rw [beq_lists, decide_eq_false hv]
            have HO := Lib.hid hv
            clear hv
            go_wp2_with fail
            refine (get_ref w4 _ m key (HP.out.below B4.out) (by omega)).mono ?_
            rw [← HG.out]
            rintro e w6 ⟨rfl, rfl⟩
            have HV := Lib.hid (keyed_vals HG.out false (show hit ⟨5, key, value, old⟩ (gv, true) = false by simp [hit, HO.out]) (.slice none 0 0))
            dsimp only
            go_wp2_with fail
            obtain ⟨X, hX⟩ : ∃ X, X = (w6.alloc (.cells #[.int .i64 0, .bool true, .bool false, .string gv, .int .i64 0, .slice none 0 0] 40)) := ⟨_, rfl⟩
            have hXR : X.heap[w6.heap.size]? = some (.cells #[.int .i64 0, .bool true, .bool false, .string gv, .int .i64 0, .slice none 0 0] 40 (0, 0)) := by rw [hX]; exact heap_alloc_new w6 _
            have hXY : X.heap[w.heap.size + 1]? = some (.cells #[.int .i64 0, .bool false, .bool false, .string ⟨#[]⟩, .int .i64 0, .slice none 0 0] 40 (0, 0)) := by rw [hX]; exact HY5.out false
            have hXX : X.heap[w.heap.size]? = some (.cells #[.int .i64 5, .string key, .string value, .string old] 42 (0, 0)) := by rw [hX]; exact HX5.out false
            have hXB : Below w.heap.size w X := by rw [hX]; exact B4.out.alloc (by omega) _
            rw [← hX]
            have s0 := cell_of hXR 0
            have s1 := cell_of hXR 1
            have s2 := cell_of hXR 2
            have s3 := cell_of hXR 3
            have s4 := cell_of hXR 4
            have s5 := cell_of hXR 5
            have s6 := cell_of hXX 1
            have s7 := cell_of hXX 2
            simp only [List.getElem?_toArray, List.getElem?_cons_succ, List.getElem?_cons_zero] at s0 s1 s2 s3 s4 s5 s6 s7
            have hXl : w6.heap.size < X.heap.size := (Array.getElem?_eq_some_iff.1 hXR).1
            have HXR := Lib.hid hXR
            have HXY := Lib.hid hXY
            have HXX := Lib.hid hXX
            have HXB := Lib.hid hXB
            clear hXX hXB hX g0 g1 g2 g3 f0 f1 f2 f3
            have t0 := cell_of hXY 0
            have t1 := cell_of hXY 1
            have t2 := cell_of hXY 2
            have t3 := cell_of hXY 3
            have t4 := cell_of hXY 4
            have t5 := cell_of hXY 5
            have v0 := frozen_of hXY 0
            have v1 := frozen_of hXY 1
            have v2 := frozen_of hXY 2
            have v3 := frozen_of hXY 3
            have v4 := frozen_of hXY 4
            have v5 := frozen_of hXY 5
            simp only [List.getElem?_toArray, List.getElem?_cons_succ, List.getElem?_cons_zero] at t0 t1 t2 t3 t4 t5
            clear hXR hXY
            go_region_held3 (fun w' => w'.cell? ⟨w6.heap.size, 0, none⟩ = some (.int .i64 0) ∧ w'.cell? ⟨w6.heap.size, 1, none⟩ = some (.bool true) ∧ w'.cell? ⟨w6.heap.size, 2, none⟩ = some (.bool false) ∧ w'.cell? ⟨w6.heap.size, 3, none⟩ = some (.string gv) ∧ w'.cell? ⟨w6.heap.size, 4, none⟩ = some (.int .i64 0) ∧ w'.cell? ⟨w6.heap.size, 5, none⟩ = some (.slice none 0 0) ∧ w'.cell? ⟨w.heap.size, 1, none⟩ = some (.string key) ∧ w'.cell? ⟨w.heap.size, 2, none⟩ = some (.string value))
              (first | (go_split_ands; refine ⟨?_, ?_, ?_, ?_, ?_, ?_, ?_, ?_⟩ <;> with_reducible assumption) | (go_split_ands; refine ⟨?_, ?_, ?_, ?_, ?_, ?_, ?_, ?_⟩ <;> (rw [cell6 _ _ _ _ _ _ (by omega)]; with_reducible assumption)) | (go_split_ands; refine ⟨?_, ?_, ?_, ?_, ?_, ?_, ?_, ?_⟩ <;> (rw [cell6d _ _ _ _ _ _ (by omega)]; with_reducible assumption)) | go_keep)
              (fail)
            go_wp2_with fail
            have hZ : ((((((X.setCell ⟨w.heap.size + 1, 0, none⟩ (.int .i64 0)).setCell ⟨w.heap.size + 1, 1, none⟩ (.bool true)).setCell ⟨w.heap.size + 1, 2, none⟩ (.bool false)).setCell ⟨w.heap.size + 1, 3, none⟩ (.string gv)).setCell ⟨w.heap.size + 1, 4, none⟩ (.int .i64 0)).setCell ⟨w.heap.size + 1, 5, none⟩ (.slice none 0 0)).drew.heap[w.heap.size + 1]? = some (.cells #[.int .i64 0, .bool true, .bool false, .string gv, .int .i64 0, .slice none 0 0] 40 (0, 0)) := (heap_drew _ _).trans (store6 _ _ _ _ _ _ HXY.out)
            have hbf : Below w.heap.size w ((((((X.setCell ⟨w.heap.size + 1, 0, none⟩ (.int .i64 0)).setCell ⟨w.heap.size + 1, 1, none⟩ (.bool true)).setCell ⟨w.heap.size + 1, 2, none⟩ (.bool false)).setCell ⟨w.heap.size + 1, 3, none⟩ (.string gv)).setCell ⟨w.heap.size + 1, 4, none⟩ (.int .i64 0)).setCell ⟨w.heap.size + 1, 5, none⟩ (.slice none 0 0)).drew := (below6 HXB.out (by omega) _ _ _ _ _ _).drew
            refine bodyPost_ret (results_tmp_cell rfl _ _ (w.heap.size + 1) _ _ _ _ rfl hZ Tryz.underlying40 rfl infoRep) rfl ?_
            rw [HDK.out.1, HDK.out.2, HV.out.2]
            refine ⟨_, .slice none 0 0, ?_, HP.out.below hbf, prs_nil _, hbf⟩
            rw [HV.out.1]; rfl
      · cases gh with
        | false =>
          go_wp2_with fail
          refine (get_ref w4 _ m key (HP.out.below B4.out) (by omega)).mono ?_
          rw [← HG.out]
          rintro e w6 ⟨rfl, rfl⟩
          have HV := Lib.hid (keyed_vals HG.out false (show hit ⟨6, key, value, old⟩ (gv, false) = false by simp [hit]) (.slice none 0 0))
          dsimp only
          go_wp2_with fail
          obtain ⟨X, hX⟩ : ∃ X, X = (w6.alloc (.cells #[.int .i64 0, .bool false, .bool false, .string gv, .int .i64 0, .slice none 0 0] 40)) := ⟨_, rfl⟩
          have hXR : X.heap[w6.heap.size]? = some (.cells #[.int .i64 0, .bool false, .bool false, .string gv, .int .i64 0, .slice none 0 0] 40 (0, 0)) := by rw [hX]; exact heap_alloc_new w6 _
          have hXY : X.heap[w.heap.size + 1]? = some (.cells #[.int .i64 0, .bool false, .bool false, .string ⟨#[]⟩, .int .i64 0, .slice none 0 0] 40 (0, 0)) := by rw [hX]; exact HY5.out false
          have hXX : X.heap[w.heap.size]? = some (.cells #[.int .i64 6, .string key, .string value, .string old] 42 (0, 0)) := by rw [hX]; exact HX5.out false
          have hXB : Below w.heap.size w X := by rw [hX]; exact B4.out.alloc (by omega) _
          rw [← hX]
          have s0 := cell_of hXR 0
          have s1 := cell_of hXR 1
          have s2 := cell_of hXR 2
          have s3 := cell_of hXR 3
          have s4 := cell_of hXR 4
          have s5 := cell_of hXR 5
          have s6 := cell_of hXX 1
          have s7 := cell_of hXX 2
          simp only [List.getElem?_toArray, List.getElem?_cons_succ, List.getElem?_cons_zero] at s0 s1 s2 s3 s4 s5 s6 s7
          have hXl : w6.heap.size < X.heap.size := (Array.getElem?_eq_some_iff.1 hXR).1
          have HXR := Lib.hid hXR
          have HXY := Lib.hid hXY
          have HXX := Lib.hid hXX
          have HXB := Lib.hid hXB
          clear hXX hXB hX g0 g1 g2 g3 f0 f1 f2 f3
          have t0 := cell_of hXY 0
          have t1 := cell_of hXY 1
          have t2 := cell_of hXY 2
          have t3 := cell_of hXY 3
          have t4 := cell_of hXY 4
          have t5 := cell_of hXY 5
          have v0 := frozen_of hXY 0
          have v1 := frozen_of hXY 1
          have v2 := frozen_of hXY 2
          have v3 := frozen_of hXY 3
          have v4 := frozen_of hXY 4
          have v5 := frozen_of hXY 5
          simp only [List.getElem?_toArray, List.getElem?_cons_succ, List.getElem?_cons_zero] at t0 t1 t2 t3 t4 t5
          clear hXR hXY
          go_region_held3 (fun w' => w'.cell? ⟨w6.heap.size, 0, none⟩ = some (.int .i64 0) ∧ w'.cell? ⟨w6.heap.size, 1, none⟩ = some (.bool false) ∧ w'.cell? ⟨w6.heap.size, 2, none⟩ = some (.bool false) ∧ w'.cell? ⟨w6.heap.size, 3, none⟩ = some (.string gv) ∧ w'.cell? ⟨w6.heap.size, 4, none⟩ = some (.int .i64 0) ∧ w'.cell? ⟨w6.heap.size, 5, none⟩ = some (.slice none 0 0) ∧ w'.cell? ⟨w.heap.size, 1, none⟩ = some (.string key) ∧ w'.cell? ⟨w.heap.size, 2, none⟩ = some (.string value))
            (first | (go_split_ands; refine ⟨?_, ?_, ?_, ?_, ?_, ?_, ?_, ?_⟩ <;> with_reducible assumption) | (go_split_ands; refine ⟨?_, ?_, ?_, ?_, ?_, ?_, ?_, ?_⟩ <;> (rw [cell6 _ _ _ _ _ _ (by omega)]; with_reducible assumption)) | (go_split_ands; refine ⟨?_, ?_, ?_, ?_, ?_, ?_, ?_, ?_⟩ <;> (rw [cell6d _ _ _ _ _ _ (by omega)]; with_reducible assumption)) | go_keep)
            (fail)
          go_wp2_with fail
          have hZ : ((((((X.setCell ⟨w.heap.size + 1, 0, none⟩ (.int .i64 0)).setCell ⟨w.heap.size + 1, 1, none⟩ (.bool false)).setCell ⟨w.heap.size + 1, 2, none⟩ (.bool false)).setCell ⟨w.heap.size + 1, 3, none⟩ (.string gv)).setCell ⟨w.heap.size + 1, 4, none⟩ (.int .i64 0)).setCell ⟨w.heap.size + 1, 5, none⟩ (.slice none 0 0)).drew.heap[w.heap.size + 1]? = some (.cells #[.int .i64 0, .bool false, .bool false, .string gv, .int .i64 0, .slice none 0 0] 40 (0, 0)) := (heap_drew _ _).trans (store6 _ _ _ _ _ _ HXY.out)
          have hbf : Below w.heap.size w ((((((X.setCell ⟨w.heap.size + 1, 0, none⟩ (.int .i64 0)).setCell ⟨w.heap.size + 1, 1, none⟩ (.bool false)).setCell ⟨w.heap.size + 1, 2, none⟩ (.bool false)).setCell ⟨w.heap.size + 1, 3, none⟩ (.string gv)).setCell ⟨w.heap.size + 1, 4, none⟩ (.int .i64 0)).setCell ⟨w.heap.size + 1, 5, none⟩ (.slice none 0 0)).drew := (below6 HXB.out (by omega) _ _ _ _ _ _).drew
          refine bodyPost_ret (results_tmp_cell rfl _ _ (w.heap.size + 1) _ _ _ _ rfl hZ Tryz.underlying40 rfl infoRep) rfl ?_
          rw [HDK.out.1, HDK.out.2, HV.out.2]
          refine ⟨_, .slice none 0 0, ?_, HP.out.below hbf, prs_nil _, hbf⟩
          rw [HV.out.1]; rfl
        | true =>
          by_cases hv : gv = old
          · have ho : (gv.toList == old.toList) = true := by rw [hv]; exact beq_self_eq_true _
            have HO := Lib.hid hv
            clear hv
            go_wp2_with fail
            refine (get_ref w4 _ m key (HP.out.below B4.out) (by omega)).mono ?_
            rw [← HG.out]
            rintro e w6 ⟨rfl, rfl⟩
            have HV := Lib.hid (keyed_vals HG.out true (show hit ⟨6, key, value, old⟩ (gv, true) = true by simp [hit, HO.out]) (.slice none 0 0))
            dsimp only
            go_wp2_with fail
            obtain ⟨X, hX⟩ : ∃ X, X = (w6.alloc (.cells #[.int .i64 0, .bool true, .bool true, .string gv, .int .i64 0, .slice none 0 0] 40)) := ⟨_, rfl⟩
            have hXR : X.heap[w6.heap.size]? = some (.cells #[.int .i64 0, .bool true, .bool true, .string gv, .int .i64 0, .slice none 0 0] 40 (0, 0)) := by rw [hX]; exact heap_alloc_new w6 _
            have hXY : X.heap[w.heap.size + 1]? = some (.cells #[.int .i64 0, .bool false, .bool false, .string ⟨#[]⟩, .int .i64 0, .slice none 0 0] 40 (0, 0)) := by rw [hX]; exact HY5.out true
            have hXX : X.heap[w.heap.size]? = some (.cells #[.int .i64 6, .string key, .string value, .string old] 42 (0, 0)) := by rw [hX]; exact HX5.out true
            have hXB : Below w.heap.size w X := by rw [hX]; exact B4.out.alloc (by omega) _
            rw [← hX]
            have s0 := cell_of hXR 0
            have s1 := cell_of hXR 1
            have s2 := cell_of hXR 2
            have s3 := cell_of hXR 3
            have s4 := cell_of hXR 4
            have s5 := cell_of hXR 5
            have s6 := cell_of hXX 1
            have s7 := cell_of hXX 2
            simp only [List.getElem?_toArray, List.getElem?_cons_succ, List.getElem?_cons_zero] at s0 s1 s2 s3 s4 s5 s6 s7
            have hXl : w6.heap.size < X.heap.size := (Array.getElem?_eq_some_iff.1 hXR).1
            have HXR := Lib.hid hXR
            have HXY := Lib.hid hXY
            have HXX := Lib.hid hXX
            have HXB := Lib.hid hXB
            clear hXX hXB hX g0 g1 g2 g3 f0 f1 f2 f3
            have HPX := Lib.hid (HP.out.below HXB.out.drew)
            clear hXR hXY
            go_region_held3 (fun w' => w'.cell? ⟨w6.heap.size, 0, none⟩ = some (.int .i64 0) ∧ w'.cell? ⟨w6.heap.size, 1, none⟩ = some (.bool true) ∧ w'.cell? ⟨w6.heap.size, 2, none⟩ = some (.bool true) ∧ w'.cell? ⟨w6.heap.size, 3, none⟩ = some (.string gv) ∧ w'.cell? ⟨w6.heap.size, 4, none⟩ = some (.int .i64 0) ∧ w'.cell? ⟨w6.heap.size, 5, none⟩ = some (.slice none 0 0) ∧ w'.cell? ⟨w.heap.size, 1, none⟩ = some (.string key) ∧ w'.cell? ⟨w.heap.size, 2, none⟩ = some (.string value))
              (first | (go_split_ands; refine ⟨?_, ?_, ?_, ?_, ?_, ?_, ?_, ?_⟩ <;> with_reducible assumption) | (go_split_ands; refine ⟨?_, ?_, ?_, ?_, ?_, ?_, ?_, ?_⟩ <;> (rw [cell6 _ _ _ _ _ _ (by omega)]; with_reducible assumption)) | (go_split_ands; refine ⟨?_, ?_, ?_, ?_, ?_, ?_, ?_, ?_⟩ <;> (rw [cell6d _ _ _ _ _ _ (by omega)]; with_reducible assumption)) | go_keep)
              ((go_at_call 53; refine (del_ref _ _ m key HPX.out (by omega)).mono ?_; rw [rdel_sorted HS.out]; rintro e w7 ⟨v7, rfl, hp7, hb7⟩; have hr7 := (hb7.block _ hXl).trans HXR.out; have hy7 := (hb7.block (w.heap.size + 1) (show w.heap.size + 1 < X.heap.size by omega)).trans HXY.out; have hx7 := (hb7.block w.heap.size (show w.heap.size < X.heap.size by omega)).trans HXX.out; have u0 := cell_of hr7 0; have u1 := cell_of hr7 1; have u2 := cell_of hr7 2; have u3 := cell_of hr7 3; have u4 := cell_of hr7 4; have u5 := cell_of hr7 5; have u6 := cell_of hx7 1; have u7 := cell_of hx7 2; have t0 := cell_of hy7 0; have t1 := cell_of hy7 1; have t2 := cell_of hy7 2; have t3 := cell_of hy7 3; have t4 := cell_of hy7 4; have t5 := cell_of hy7 5; have v0 := frozen_of hy7 0; have v1 := frozen_of hy7 1; have v2 := frozen_of hy7 2; have v3 := frozen_of hy7 3; have v4 := frozen_of hy7 4; have v5 := frozen_of hy7 5; simp only [List.getElem?_toArray, List.getElem?_cons_succ, List.getElem?_cons_zero] at u0 u1 u2 u3 u4 u5 u6 u7 t0 t1 t2 t3 t4 t5; have R7 := Lib.hid hp7; have HY7 := Lib.hid hy7; have B7 := Lib.hid (HXB.out.trans ((Below.refl _ _).drew.trans (hb7.mono HXB.out.size))); clear hr7 hy7 hx7 hb7 hp7))
            go_wp2_with fail
            refine bodyPost_ret (results_tmp_cell rfl _ _ (w.heap.size + 1) _ _ _ _ rfl (store6 _ _ _ _ _ _ HY7.out) Tryz.underlying40 rfl infoRep) rfl ?_
            rw [HDK.out.1, HDK.out.2, HV.out.2]
            refine ⟨_, .slice none 0 0, ?_, Prs.of_owns (owns_set6 R7.out HY7.out (by decide) _ _ _ _ _ _), prs_nil _, below6 B7.out (by omega) _ _ _ _ _ _⟩
            rw [HV.out.1]; rfl
          · have ho : (gv.toList == old.toList) = false := by rw [beq_lists, decide_eq_false hv]
            have HO := Lib.hid hv
            clear hv
            go_wp2_with fail
            refine (get_ref w4 _ m key (HP.out.below B4.out) (by omega)).mono ?_
            rw [← HG.out]
            rintro e w6 ⟨rfl, rfl⟩
            have HV := Lib.hid (keyed_vals HG.out true (show hit ⟨6, key, value, old⟩ (gv, true) = true by simp [hit, HO.out]) (.slice none 0 0))
            dsimp only
            go_wp2_with fail
            obtain ⟨X, hX⟩ : ∃ X, X = (w6.alloc (.cells #[.int .i64 0, .bool true, .bool true, .string gv, .int .i64 0, .slice none 0 0] 40)) := ⟨_, rfl⟩
            have hXR : X.heap[w6.heap.size]? = some (.cells #[.int .i64 0, .bool true, .bool true, .string gv, .int .i64 0, .slice none 0 0] 40 (0, 0)) := by rw [hX]; exact heap_alloc_new w6 _
            have hXY : X.heap[w.heap.size + 1]? = some (.cells #[.int .i64 0, .bool false, .bool false, .string ⟨#[]⟩, .int .i64 0, .slice none 0 0] 40 (0, 0)) := by rw [hX]; exact HY5.out true
            have hXX : X.heap[w.heap.size]? = some (.cells #[.int .i64 6, .string key, .string value, .string old] 42 (0, 0)) := by rw [hX]; exact HX5.out true
            have hXB : Below w.heap.size w X := by rw [hX]; exact B4.out.alloc (by omega) _
            rw [← hX]
            have s0 := cell_of hXR 0
            have s1 := cell_of hXR 1
            have s2 := cell_of hXR 2
            have s3 := cell_of hXR 3
            have s4 := cell_of hXR 4
            have s5 := cell_of hXR 5
            have s6 := cell_of hXX 1
            have s7 := cell_of hXX 2
            simp only [List.getElem?_toArray, List.getElem?_cons_succ, List.getElem?_cons_zero] at s0 s1 s2 s3 s4 s5 s6 s7
            have hXl : w6.heap.size < X.heap.size := (Array.getElem?_eq_some_iff.1 hXR).1
            have HXR := Lib.hid hXR
            have HXY := Lib.hid hXY
            have HXX := Lib.hid hXX
            have HXB := Lib.hid hXB
            clear hXX hXB hX g0 g1 g2 g3 f0 f1 f2 f3
            have HPX := Lib.hid (HP.out.below HXB.out.drew)
            clear hXR hXY
            go_region_held3 (fun w' => w'.cell? ⟨w6.heap.size, 0, none⟩ = some (.int .i64 0) ∧ w'.cell? ⟨w6.heap.size, 1, none⟩ = some (.bool true) ∧ w'.cell? ⟨w6.heap.size, 2, none⟩ = some (.bool true) ∧ w'.cell? ⟨w6.heap.size, 3, none⟩ = some (.string gv) ∧ w'.cell? ⟨w6.heap.size, 4, none⟩ = some (.int .i64 0) ∧ w'.cell? ⟨w6.heap.size, 5, none⟩ = some (.slice none 0 0) ∧ w'.cell? ⟨w.heap.size, 1, none⟩ = some (.string key) ∧ w'.cell? ⟨w.heap.size, 2, none⟩ = some (.string value))
              (first | (go_split_ands; refine ⟨?_, ?_, ?_, ?_, ?_, ?_, ?_, ?_⟩ <;> with_reducible assumption) | (go_split_ands; refine ⟨?_, ?_, ?_, ?_, ?_, ?_, ?_, ?_⟩ <;> (rw [cell6 _ _ _ _ _ _ (by omega)]; with_reducible assumption)) | (go_split_ands; refine ⟨?_, ?_, ?_, ?_, ?_, ?_, ?_, ?_⟩ <;> (rw [cell6d _ _ _ _ _ _ (by omega)]; with_reducible assumption)) | go_keep)
              ((go_at_call 53; refine (del_ref _ _ m key HPX.out (by omega)).mono ?_; rw [rdel_sorted HS.out]; rintro e w7 ⟨v7, rfl, hp7, hb7⟩; have hr7 := (hb7.block _ hXl).trans HXR.out; have hy7 := (hb7.block (w.heap.size + 1) (show w.heap.size + 1 < X.heap.size by omega)).trans HXY.out; have hx7 := (hb7.block w.heap.size (show w.heap.size < X.heap.size by omega)).trans HXX.out; have u0 := cell_of hr7 0; have u1 := cell_of hr7 1; have u2 := cell_of hr7 2; have u3 := cell_of hr7 3; have u4 := cell_of hr7 4; have u5 := cell_of hr7 5; have u6 := cell_of hx7 1; have u7 := cell_of hx7 2; have t0 := cell_of hy7 0; have t1 := cell_of hy7 1; have t2 := cell_of hy7 2; have t3 := cell_of hy7 3; have t4 := cell_of hy7 4; have t5 := cell_of hy7 5; have v0 := frozen_of hy7 0; have v1 := frozen_of hy7 1; have v2 := frozen_of hy7 2; have v3 := frozen_of hy7 3; have v4 := frozen_of hy7 4; have v5 := frozen_of hy7 5; simp only [List.getElem?_toArray, List.getElem?_cons_succ, List.getElem?_cons_zero] at u0 u1 u2 u3 u4 u5 u6 u7 t0 t1 t2 t3 t4 t5; have R7 := Lib.hid hp7; have HY7 := Lib.hid hy7; have B7 := Lib.hid (HXB.out.trans ((Below.refl _ _).drew.trans (hb7.mono HXB.out.size))); clear hr7 hy7 hx7 hb7 hp7))
            go_wp2_with fail
            refine bodyPost_ret (results_tmp_cell rfl _ _ (w.heap.size + 1) _ _ _ _ rfl (store6 _ _ _ _ _ _ HY7.out) Tryz.underlying40 rfl infoRep) rfl ?_
            rw [HDK.out.1, HDK.out.2, HV.out.2]
            refine ⟨_, .slice none 0 0, ?_, Prs.of_owns (owns_set6 R7.out HY7.out (by decide) _ _ _ _ _ _), prs_nil _, below6 B7.out (by omega) _ _ _ _ _ _⟩
            rw [HV.out.1]; rfl
      · cases gh with
        | false =>
          go_wp2_with fail
          refine (get_ref w4 _ m key (HP.out.below B4.out) (by omega)).mono ?_
          rw [← HG.out]
          rintro e w6 ⟨rfl, rfl⟩
          have HV := Lib.hid (keyed_vals HG.out false (show hit ⟨7, key, value, old⟩ (gv, false) = false by simp [hit]) (.slice none 0 0))
          dsimp only
          go_wp2_with fail
          obtain ⟨X, hX⟩ : ∃ X, X = (w6.alloc (.cells #[.int .i64 0, .bool false, .bool false, .string gv, .int .i64 0, .slice none 0 0] 40)) := ⟨_, rfl⟩
          have hXR : X.heap[w6.heap.size]? = some (.cells #[.int .i64 0, .bool false, .bool false, .string gv, .int .i64 0, .slice none 0 0] 40 (0, 0)) := by rw [hX]; exact heap_alloc_new w6 _
          have hXY : X.heap[w.heap.size + 1]? = some (.cells #[.int .i64 0, .bool false, .bool false, .string ⟨#[]⟩, .int .i64 0, .slice none 0 0] 40 (0, 0)) := by rw [hX]; exact HY5.out false
          have hXX : X.heap[w.heap.size]? = some (.cells #[.int .i64 7, .string key, .string value, .string old] 42 (0, 0)) := by rw [hX]; exact HX5.out false
          have hXB : Below w.heap.size w X := by rw [hX]; exact B4.out.alloc (by omega) _
          rw [← hX]
          have s0 := cell_of hXR 0
          have s1 := cell_of hXR 1
          have s2 := cell_of hXR 2
          have s3 := cell_of hXR 3
          have s4 := cell_of hXR 4
          have s5 := cell_of hXR 5
          have s6 := cell_of hXX 1
          have s7 := cell_of hXX 2
          simp only [List.getElem?_toArray, List.getElem?_cons_succ, List.getElem?_cons_zero] at s0 s1 s2 s3 s4 s5 s6 s7
          have hXl : w6.heap.size < X.heap.size := (Array.getElem?_eq_some_iff.1 hXR).1
          have HXR := Lib.hid hXR
          have HXY := Lib.hid hXY
          have HXX := Lib.hid hXX
          have HXB := Lib.hid hXB
          clear hXX hXB hX g0 g1 g2 g3 f0 f1 f2 f3
          have t0 := cell_of hXY 0
          have t1 := cell_of hXY 1
          have t2 := cell_of hXY 2
          have t3 := cell_of hXY 3
          have t4 := cell_of hXY 4
          have t5 := cell_of hXY 5
          have v0 := frozen_of hXY 0
          have v1 := frozen_of hXY 1
          have v2 := frozen_of hXY 2
          have v3 := frozen_of hXY 3
          have v4 := frozen_of hXY 4
          have v5 := frozen_of hXY 5
          simp only [List.getElem?_toArray, List.getElem?_cons_succ, List.getElem?_cons_zero] at t0 t1 t2 t3 t4 t5
          clear hXR hXY
          go_region_held3 (fun w' => w'.cell? ⟨w6.heap.size, 0, none⟩ = some (.int .i64 0) ∧ w'.cell? ⟨w6.heap.size, 1, none⟩ = some (.bool false) ∧ w'.cell? ⟨w6.heap.size, 2, none⟩ = some (.bool false) ∧ w'.cell? ⟨w6.heap.size, 3, none⟩ = some (.string gv) ∧ w'.cell? ⟨w6.heap.size, 4, none⟩ = some (.int .i64 0) ∧ w'.cell? ⟨w6.heap.size, 5, none⟩ = some (.slice none 0 0) ∧ w'.cell? ⟨w.heap.size, 1, none⟩ = some (.string key) ∧ w'.cell? ⟨w.heap.size, 2, none⟩ = some (.string value))
            (first | (go_split_ands; refine ⟨?_, ?_, ?_, ?_, ?_, ?_, ?_, ?_⟩ <;> with_reducible assumption) | (go_split_ands; refine ⟨?_, ?_, ?_, ?_, ?_, ?_, ?_, ?_⟩ <;> (rw [cell6 _ _ _ _ _ _ (by omega)]; with_reducible assumption)) | (go_split_ands; refine ⟨?_, ?_, ?_, ?_, ?_, ?_, ?_, ?_⟩ <;> (rw [cell6d _ _ _ _ _ _ (by omega)]; with_reducible assumption)) | go_keep)
            (fail)
          go_wp2_with fail
          have hZ : ((((((X.setCell ⟨w.heap.size + 1, 0, none⟩ (.int .i64 0)).setCell ⟨w.heap.size + 1, 1, none⟩ (.bool false)).setCell ⟨w.heap.size + 1, 2, none⟩ (.bool false)).setCell ⟨w.heap.size + 1, 3, none⟩ (.string gv)).setCell ⟨w.heap.size + 1, 4, none⟩ (.int .i64 0)).setCell ⟨w.heap.size + 1, 5, none⟩ (.slice none 0 0)).drew.heap[w.heap.size + 1]? = some (.cells #[.int .i64 0, .bool false, .bool false, .string gv, .int .i64 0, .slice none 0 0] 40 (0, 0)) := (heap_drew _ _).trans (store6 _ _ _ _ _ _ HXY.out)
          have hbf : Below w.heap.size w ((((((X.setCell ⟨w.heap.size + 1, 0, none⟩ (.int .i64 0)).setCell ⟨w.heap.size + 1, 1, none⟩ (.bool false)).setCell ⟨w.heap.size + 1, 2, none⟩ (.bool false)).setCell ⟨w.heap.size + 1, 3, none⟩ (.string gv)).setCell ⟨w.heap.size + 1, 4, none⟩ (.int .i64 0)).setCell ⟨w.heap.size + 1, 5, none⟩ (.slice none 0 0)).drew := (below6 HXB.out (by omega) _ _ _ _ _ _).drew
          refine bodyPost_ret (results_tmp_cell rfl _ _ (w.heap.size + 1) _ _ _ _ rfl hZ Tryz.underlying40 rfl infoRep) rfl ?_
          rw [HDK.out.1, HDK.out.2, HV.out.2]
          refine ⟨_, .slice none 0 0, ?_, HP.out.below hbf, prs_nil _, hbf⟩
          rw [HV.out.1]; rfl
        | true =>
          by_cases hv : gv = old
          · have ho : (gv.toList == old.toList) = true := by rw [hv]; exact beq_self_eq_true _
            have HO := Lib.hid hv
            clear hv
            go_wp2_with fail
            refine (get_ref w4 _ m key (HP.out.below B4.out) (by omega)).mono ?_
            rw [← HG.out]
            rintro e w6 ⟨rfl, rfl⟩
            have HV := Lib.hid (keyed_vals HG.out true (show hit ⟨7, key, value, old⟩ (gv, true) = true by simp [hit, HO.out]) (.slice none 0 0))
            dsimp only
            go_wp2_with fail
            obtain ⟨X, hX⟩ : ∃ X, X = (w6.alloc (.cells #[.int .i64 0, .bool true, .bool true, .string gv, .int .i64 0, .slice none 0 0] 40)) := ⟨_, rfl⟩
            have hXR : X.heap[w6.heap.size]? = some (.cells #[.int .i64 0, .bool true, .bool true, .string gv, .int .i64 0, .slice none 0 0] 40 (0, 0)) := by rw [hX]; exact heap_alloc_new w6 _
            have hXY : X.heap[w.heap.size + 1]? = some (.cells #[.int .i64 0, .bool false, .bool false, .string ⟨#[]⟩, .int .i64 0, .slice none 0 0] 40 (0, 0)) := by rw [hX]; exact HY5.out true
            have hXX : X.heap[w.heap.size]? = some (.cells #[.int .i64 7, .string key, .string value, .string old] 42 (0, 0)) := by rw [hX]; exact HX5.out true
            have hXB : Below w.heap.size w X := by rw [hX]; exact B4.out.alloc (by omega) _
            rw [← hX]
            have s0 := cell_of hXR 0
            have s1 := cell_of hXR 1
            have s2 := cell_of hXR 2
            have s3 := cell_of hXR 3
            have s4 := cell_of hXR 4
            have s5 := cell_of hXR 5
            have s6 := cell_of hXX 1
            have s7 := cell_of hXX 2
            simp only [List.getElem?_toArray, List.getElem?_cons_succ, List.getElem?_cons_zero] at s0 s1 s2 s3 s4 s5 s6 s7
            have hXl : w6.heap.size < X.heap.size := (Array.getElem?_eq_some_iff.1 hXR).1
            have HXR := Lib.hid hXR
            have HXY := Lib.hid hXY
            have HXX := Lib.hid hXX
            have HXB := Lib.hid hXB
            clear hXX hXB hX g0 g1 g2 g3 f0 f1 f2 f3
            have HPX := Lib.hid (HP.out.below HXB.out.drew)
            clear hXR hXY
            go_region_held3 (fun w' => w'.cell? ⟨w6.heap.size, 0, none⟩ = some (.int .i64 0) ∧ w'.cell? ⟨w6.heap.size, 1, none⟩ = some (.bool true) ∧ w'.cell? ⟨w6.heap.size, 2, none⟩ = some (.bool true) ∧ w'.cell? ⟨w6.heap.size, 3, none⟩ = some (.string gv) ∧ w'.cell? ⟨w6.heap.size, 4, none⟩ = some (.int .i64 0) ∧ w'.cell? ⟨w6.heap.size, 5, none⟩ = some (.slice none 0 0) ∧ w'.cell? ⟨w.heap.size, 1, none⟩ = some (.string key) ∧ w'.cell? ⟨w.heap.size, 2, none⟩ = some (.string value))
              (first | (go_split_ands; refine ⟨?_, ?_, ?_, ?_, ?_, ?_, ?_, ?_⟩ <;> with_reducible assumption) | (go_split_ands; refine ⟨?_, ?_, ?_, ?_, ?_, ?_, ?_, ?_⟩ <;> (rw [cell6 _ _ _ _ _ _ (by omega)]; with_reducible assumption)) | (go_split_ands; refine ⟨?_, ?_, ?_, ?_, ?_, ?_, ?_, ?_⟩ <;> (rw [cell6d _ _ _ _ _ _ (by omega)]; with_reducible assumption)) | go_keep)
              ((go_at_call 53; refine (del_ref _ _ m key HPX.out (by omega)).mono ?_; rw [rdel_sorted HS.out]; rintro e w7 ⟨v7, rfl, hp7, hb7⟩; have hr7 := (hb7.block _ hXl).trans HXR.out; have hy7 := (hb7.block (w.heap.size + 1) (show w.heap.size + 1 < X.heap.size by omega)).trans HXY.out; have hx7 := (hb7.block w.heap.size (show w.heap.size < X.heap.size by omega)).trans HXX.out; have u0 := cell_of hr7 0; have u1 := cell_of hr7 1; have u2 := cell_of hr7 2; have u3 := cell_of hr7 3; have u4 := cell_of hr7 4; have u5 := cell_of hr7 5; have u6 := cell_of hx7 1; have u7 := cell_of hx7 2; have t0 := cell_of hy7 0; have t1 := cell_of hy7 1; have t2 := cell_of hy7 2; have t3 := cell_of hy7 3; have t4 := cell_of hy7 4; have t5 := cell_of hy7 5; have v0 := frozen_of hy7 0; have v1 := frozen_of hy7 1; have v2 := frozen_of hy7 2; have v3 := frozen_of hy7 3; have v4 := frozen_of hy7 4; have v5 := frozen_of hy7 5; simp only [List.getElem?_toArray, List.getElem?_cons_succ, List.getElem?_cons_zero] at u0 u1 u2 u3 u4 u5 u6 u7 t0 t1 t2 t3 t4 t5; have R7 := Lib.hid hp7; have HY7 := Lib.hid hy7; have B7 := Lib.hid (HXB.out.trans ((Below.refl _ _).drew.trans (hb7.mono HXB.out.size))); clear hr7 hy7 hx7 hb7 hp7))
            go_wp2_with fail
            refine bodyPost_ret (results_tmp_cell rfl _ _ (w.heap.size + 1) _ _ _ _ rfl (store6 _ _ _ _ _ _ HY7.out) Tryz.underlying40 rfl infoRep) rfl ?_
            rw [HDK.out.1, HDK.out.2, HV.out.2]
            refine ⟨_, .slice none 0 0, ?_, Prs.of_owns (owns_set6 R7.out HY7.out (by decide) _ _ _ _ _ _), prs_nil _, below6 B7.out (by omega) _ _ _ _ _ _⟩
            rw [HV.out.1]; rfl
          · have ho : (gv.toList == old.toList) = false := by rw [beq_lists, decide_eq_false hv]
            have HO := Lib.hid hv
            clear hv
            go_wp2_with fail
            refine (get_ref w4 _ m key (HP.out.below B4.out) (by omega)).mono ?_
            rw [← HG.out]
            rintro e w6 ⟨rfl, rfl⟩
            have HV := Lib.hid (keyed_vals HG.out false (show hit ⟨7, key, value, old⟩ (gv, true) = false by simp [hit, HO.out]) (.slice none 0 0))
            dsimp only
            go_wp2_with fail
            obtain ⟨X, hX⟩ : ∃ X, X = (w6.alloc (.cells #[.int .i64 0, .bool true, .bool false, .string gv, .int .i64 0, .slice none 0 0] 40)) := ⟨_, rfl⟩
            have hXR : X.heap[w6.heap.size]? = some (.cells #[.int .i64 0, .bool true, .bool false, .string gv, .int .i64 0, .slice none 0 0] 40 (0, 0)) := by rw [hX]; exact heap_alloc_new w6 _
            have hXY : X.heap[w.heap.size + 1]? = some (.cells #[.int .i64 0, .bool false, .bool false, .string ⟨#[]⟩, .int .i64 0, .slice none 0 0] 40 (0, 0)) := by rw [hX]; exact HY5.out false
            have hXX : X.heap[w.heap.size]? = some (.cells #[.int .i64 7, .string key, .string value, .string old] 42 (0, 0)) := by rw [hX]; exact HX5.out false
            have hXB : Below w.heap.size w X := by rw [hX]; exact B4.out.alloc (by omega) _
            rw [← hX]
            have s0 := cell_of hXR 0
            have s1 := cell_of hXR 1
            have s2 := cell_of hXR 2
            have s3 := cell_of hXR 3
            have s4 := cell_of hXR 4
            have s5 := cell_of hXR 5
            have s6 := cell_of hXX 1
            have s7 := cell_of hXX 2
            simp only [List.getElem?_toArray, List.getElem?_cons_succ, List.getElem?_cons_zero] at s0 s1 s2 s3 s4 s5 s6 s7
            have hXl : w6.heap.size < X.heap.size := (Array.getElem?_eq_some_iff.1 hXR).1
            have HXR := Lib.hid hXR
            have HXY := Lib.hid hXY
            have HXX := Lib.hid hXX
            have HXB := Lib.hid hXB
            clear hXX hXB hX g0 g1 g2 g3 f0 f1 f2 f3
            have t0 := cell_of hXY 0
            have t1 := cell_of hXY 1
            have t2 := cell_of hXY 2
            have t3 := cell_of hXY 3
            have t4 := cell_of hXY 4
            have t5 := cell_of hXY 5
            have v0 := frozen_of hXY 0
            have v1 := frozen_of hXY 1
            have v2 := frozen_of hXY 2
            have v3 := frozen_of hXY 3
            have v4 := frozen_of hXY 4
            have v5 := frozen_of hXY 5
            simp only [List.getElem?_toArray, List.getElem?_cons_succ, List.getElem?_cons_zero] at t0 t1 t2 t3 t4 t5
            clear hXR hXY
            go_region_held3 (fun w' => w'.cell? ⟨w6.heap.size, 0, none⟩ = some (.int .i64 0) ∧ w'.cell? ⟨w6.heap.size, 1, none⟩ = some (.bool true) ∧ w'.cell? ⟨w6.heap.size, 2, none⟩ = some (.bool false) ∧ w'.cell? ⟨w6.heap.size, 3, none⟩ = some (.string gv) ∧ w'.cell? ⟨w6.heap.size, 4, none⟩ = some (.int .i64 0) ∧ w'.cell? ⟨w6.heap.size, 5, none⟩ = some (.slice none 0 0) ∧ w'.cell? ⟨w.heap.size, 1, none⟩ = some (.string key) ∧ w'.cell? ⟨w.heap.size, 2, none⟩ = some (.string value))
              (first | (go_split_ands; refine ⟨?_, ?_, ?_, ?_, ?_, ?_, ?_, ?_⟩ <;> with_reducible assumption) | (go_split_ands; refine ⟨?_, ?_, ?_, ?_, ?_, ?_, ?_, ?_⟩ <;> (rw [cell6 _ _ _ _ _ _ (by omega)]; with_reducible assumption)) | (go_split_ands; refine ⟨?_, ?_, ?_, ?_, ?_, ?_, ?_, ?_⟩ <;> (rw [cell6d _ _ _ _ _ _ (by omega)]; with_reducible assumption)) | go_keep)
              (fail)
            go_wp2_with fail
            have hZ : ((((((X.setCell ⟨w.heap.size + 1, 0, none⟩ (.int .i64 0)).setCell ⟨w.heap.size + 1, 1, none⟩ (.bool true)).setCell ⟨w.heap.size + 1, 2, none⟩ (.bool false)).setCell ⟨w.heap.size + 1, 3, none⟩ (.string gv)).setCell ⟨w.heap.size + 1, 4, none⟩ (.int .i64 0)).setCell ⟨w.heap.size + 1, 5, none⟩ (.slice none 0 0)).drew.heap[w.heap.size + 1]? = some (.cells #[.int .i64 0, .bool true, .bool false, .string gv, .int .i64 0, .slice none 0 0] 40 (0, 0)) := (heap_drew _ _).trans (store6 _ _ _ _ _ _ HXY.out)
            have hbf : Below w.heap.size w ((((((X.setCell ⟨w.heap.size + 1, 0, none⟩ (.int .i64 0)).setCell ⟨w.heap.size + 1, 1, none⟩ (.bool true)).setCell ⟨w.heap.size + 1, 2, none⟩ (.bool false)).setCell ⟨w.heap.size + 1, 3, none⟩ (.string gv)).setCell ⟨w.heap.size + 1, 4, none⟩ (.int .i64 0)).setCell ⟨w.heap.size + 1, 5, none⟩ (.slice none 0 0)).drew := (below6 HXB.out (by omega) _ _ _ _ _ _).drew
            refine bodyPost_ret (results_tmp_cell rfl _ _ (w.heap.size + 1) _ _ _ _ rfl hZ Tryz.underlying40 rfl infoRep) rfl ?_
            rw [HDK.out.1, HDK.out.2, HV.out.2]
            refine ⟨_, .slice none 0 0, ?_, HP.out.below hbf, prs_nil _, hbf⟩
            rw [HV.out.1]; rfl
end Go.Proofs.YtdhgacionopghaaGreatDoor.Sp
