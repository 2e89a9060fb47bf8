/- act.Right, Writes, cell; the reference's Right: the walks. -/
import Derived.Test.YtdibkhddhgaghaaDoorActPure
import Derived.Test.YtdibkhddhgaghaaDoorProg
import Derived.WalkKit
import Derived.Lib.Hide
import Derived.Lib.Walk
import Derived.Below
import Derived.IntWalk
import Derived.LoopTactic
import Derived.Deep.LoopGhost
import Derived.WalkLawsBesides
import Derived.KernelRfl
import Derived.Tactics2
import Derived.Laws.StructEq
import Derived.Outline
namespace Go.Proofs.YtdibkhddhgaghaaDoor.Ac
open Go.RowKit
set_option linter.unusedVariables false
set_option linter.unusedSimpArgs false
def cellsA (x : ActL) : Array Value := #[.int .i64 x.kind, .int .u64 x.block, .int .i64 x.cell, .int .u64 x.old, .int .u64 x.nw]
def encA (x : ActL) : Value := .agg (cellsA x)
theorem act_eq5 (a0 a1 a2 a3 a4 b0 b1 b2 b3 b4 : Int) (w : World) : (Op.equalIn 10000 24 (.agg #[.int .i64 a0, .int .u64 a1, .int .i64 a2, .int .u64 a3, .int .u64 a4]) (.agg #[.int .i64 b0, .int .u64 b1, .int .i64 b2, .int .u64 b3, .int .u64 b4])).run Tryd.prog w =
    .ok (decide ((⟨a0, a1, a2, a3, a4⟩ : ActL) = ⟨b0, b1, b2, b3, b4⟩)) w := by
  have u9 := Tryd.underlying3
  have u22 := Tryd.underlying22
  rw [run_equalIn_agg _ _ _ _ _ (by kernel_rfl) (by kernel_rfl)]
  simp only [Program.fieldsOf, Tryd.underlying24]
  go_simp
  by_cases h0 : a0 = b0 <;> by_cases h1 : a1 = b1 <;> by_cases h2 : a2 = b2 <;> by_cases h3 : a3 = b3 <;> by_cases h4 : a4 = b4 <;> simp [h0, h1, h2, h3, h4]
theorem bool_eq {a b : Bool} (h : a = true ↔ b = true) : Ending.returned (.bool a) = .returned (.bool b) := by rw [Bool.eq_iff_iff.2 h]
set_option maxHeartbeats 8000000 in
theorem right_any (w : World) (x : ActL) : Calls Tryd.prog 45 #[encA x] w fun e w' => e = .returned (.bool (rightA x)) ∧ Below w.heap.size w w' := by
  have heq := @act_eq5
  obtain ⟨k, b, c, o, n⟩ := x
  unfold encA cellsA
  dsimp only
  by_cases h0 : k = 0
  · subst h0
    go_enter Tryd.func45, Tryd.ntmps45
    go_wp2_with fail
    all_goals
      go_ret
      refine ⟨bool_eq ?_, by first | exact (Below.refl _ _).alloc (Nat.le_refl _) _ | exact ((Below.refl _ _).alloc (Nat.le_refl _) _).alloc (by simp) _⟩
      first
        | (unfold rightA want; simp [*]; done)
        | (unfold rightA want; simp [*]; omega)
        | (unfold rightA want; simp; omega)
        | (unfold rightA want; simp_all; done)
        | (unfold rightA want; simp_all; omega)
  by_cases h1 : k = 1
  · subst h1
    go_enter Tryd.func45, Tryd.ntmps45
    go_wp2_with fail
    all_goals
      go_ret
      refine ⟨bool_eq ?_, by first | exact (Below.refl _ _).alloc (Nat.le_refl _) _ | exact ((Below.refl _ _).alloc (Nat.le_refl _) _).alloc (by simp) _⟩
      first
        | (unfold rightA want; simp [*]; done)
        | (unfold rightA want; simp [*]; omega)
        | (unfold rightA want; simp; omega)
        | (unfold rightA want; simp_all; done)
        | (unfold rightA want; simp_all; omega)
  by_cases h2 : k = 2
  · subst h2
    go_enter Tryd.func45, Tryd.ntmps45
    go_wp2_with fail
    all_goals
      go_ret
      refine ⟨bool_eq ?_, by first | exact (Below.refl _ _).alloc (Nat.le_refl _) _ | exact ((Below.refl _ _).alloc (Nat.le_refl _) _).alloc (by simp) _⟩
      first
        | (unfold rightA want; simp [*]; done)
        | (unfold rightA want; simp [*]; omega)
        | (unfold rightA want; simp; omega)
        | (unfold rightA want; simp_all; done)
        | (unfold rightA want; simp_all; omega)
  by_cases h3 : k = 3
  · subst h3
    go_enter Tryd.func45, Tryd.ntmps45
    go_wp2_with fail
    all_goals
      go_ret
      refine ⟨bool_eq ?_, by first | exact (Below.refl _ _).alloc (Nat.le_refl _) _ | exact ((Below.refl _ _).alloc (Nat.le_refl _) _).alloc (by simp) _⟩
      first
        | (unfold rightA want; simp [*]; done)
        | (unfold rightA want; simp [*]; omega)
        | (unfold rightA want; simp; omega)
        | (unfold rightA want; simp_all; done)
        | (unfold rightA want; simp_all; omega)
  by_cases h4 : k = 4
  · subst h4
    go_enter Tryd.func45, Tryd.ntmps45
    go_wp2_with fail
    all_goals
      go_ret
      refine ⟨bool_eq ?_, by first | exact (Below.refl _ _).alloc (Nat.le_refl _) _ | exact ((Below.refl _ _).alloc (Nat.le_refl _) _).alloc (by simp) _⟩
      first
        | (unfold rightA want; simp [*]; done)
        | (unfold rightA want; simp [*]; omega)
        | (unfold rightA want; simp; omega)
        | (unfold rightA want; simp_all; done)
        | (unfold rightA want; simp_all; omega)
  by_cases h5 : k = 5
  · subst h5
    go_enter Tryd.func45, Tryd.ntmps45
    go_wp2_with fail
    all_goals
      go_ret
      refine ⟨bool_eq ?_, by first | exact (Below.refl _ _).alloc (Nat.le_refl _) _ | exact ((Below.refl _ _).alloc (Nat.le_refl _) _).alloc (by simp) _⟩
      first
        | (unfold rightA want; simp [*]; done)
        | (unfold rightA want; simp [*]; omega)
        | (unfold rightA want; simp; omega)
        | (unfold rightA want; simp_all; done)
        | (unfold rightA want; simp_all; omega)
  by_cases h6 : k = 6
  · subst h6
    go_enter Tryd.func45, Tryd.ntmps45
    go_wp2_with fail
    all_goals
      go_ret
      refine ⟨bool_eq ?_, by first | exact (Below.refl _ _).alloc (Nat.le_refl _) _ | exact ((Below.refl _ _).alloc (Nat.le_refl _) _).alloc (by simp) _⟩
      first
        | (unfold rightA want; simp [*]; done)
        | (unfold rightA want; simp [*]; omega)
        | (unfold rightA want; simp; omega)
        | (unfold rightA want; simp_all; done)
        | (unfold rightA want; simp_all; omega)
  have b0 : (k == 0) = false := by rw [beq_eq_false_iff_ne]; exact h0
  have b1 : (k == 1) = false := by rw [beq_eq_false_iff_ne]; exact h1
  have b2 : (k == 2) = false := by rw [beq_eq_false_iff_ne]; exact h2
  have b3 : (k == 3) = false := by rw [beq_eq_false_iff_ne]; exact h3
  have b4 : (k == 4) = false := by rw [beq_eq_false_iff_ne]; exact h4
  have b5 : (k == 5) = false := by rw [beq_eq_false_iff_ne]; exact h5
  have b6 : (k == 6) = false := by rw [beq_eq_false_iff_ne]; exact h6
  have hr : rightA ⟨k, b, c, o, n⟩ = false := by
    unfold rightA
    have : decide (0 ≤ k ∧ k ≤ 6) = false := decide_eq_false (by omega)
    dsimp only
    rw [this]
    simp
  rw [hr]
  clear hr
  go_enter Tryd.func45, Tryd.ntmps45
  go_wp2_with fail
  all_goals
    go_ret
    exact ⟨rfl, (Below.refl _ _).alloc (Nat.le_refl _) _⟩
def writesA (x : ActL) : Bool := rightA x && decide (x.kind = 2 ∨ x.kind = 3 ∨ x.kind = 4)
set_option maxHeartbeats 8000000 in
theorem writes_any (w : World) (x : ActL) : Calls Tryd.prog 39 #[encA x] w fun e w' => e = .returned (.bool (writesA x)) ∧ Below w.heap.size w w' := by
  have HR := Lib.hid (fun W => right_any W x)
  obtain ⟨rx, hrx⟩ : ∃ r, rightA x = r := ⟨_, rfl⟩
  unfold writesA
  rw [hrx] at HR ⊢
  clear hrx
  obtain ⟨k, b, c, o, n⟩ := x
  unfold encA cellsA at HR ⊢
  dsimp only at HR ⊢
  cases rx with
  | false =>
    go_enter Tryd.func39, Tryd.ntmps39
    go_wp2_with fail
    refine (HR.out _).mono ?_
    rintro e w1 ⟨rfl, hb⟩
    have HB := Lib.hid hb
    clear hb
    go_wp2_with fail
    go_ret
    exact ⟨rfl, ((Below.refl _ _).alloc (Nat.le_refl _) _).trans (HB.out.mono (by simp))⟩
  | true =>
    have hdec : ∀ q, decide (k = 2 ∨ k = 3 ∨ k = 4) = q → q = (k == 2 || (k == 3 || k == 4)) := fun q hq => by
      rw [← hq, Bool.eq_iff_iff]; simp
    rw [hdec _ rfl]
    clear hdec
    go_enter Tryd.func39, Tryd.ntmps39
    go_wp2_with fail
    refine (HR.out _).mono ?_
    rintro e w1 ⟨rfl, hb⟩
    have k0 : w1.cell? ⟨w.heap.size, 0, none⟩ = some (.int .i64 k) := by
      have := (hb.block w.heap.size (by simp)).trans (heap_alloc_new w _)
      simp [World.cell?, this]
    have HB := Lib.hid hb
    clear hb
    by_cases h2 : k = 2
    · subst h2
      go_wp2_with fail
      go_ret
      exact ⟨rfl, ((Below.refl _ _).alloc (Nat.le_refl _) _).trans (HB.out.mono (by simp))⟩
    · have b2 : (k == 2) = false := by rw [beq_eq_false_iff_ne]; exact h2
      by_cases h3 : k = 3
      · subst h3
        go_wp2_with fail
        go_ret
        exact ⟨rfl, ((Below.refl _ _).alloc (Nat.le_refl _) _).trans (HB.out.mono (by simp))⟩
      · have b3 : (k == 3) = false := by rw [beq_eq_false_iff_ne]; exact h3
        obtain ⟨q, hq⟩ : ∃ q, (k == 4) = q := ⟨_, rfl⟩
        go_wp2_with fail
        go_ret
        exact ⟨by rw [show (true && (k == 2 || (k == 3 || k == 4))) = q by rw [b2, b3, hq]; rfl]; rfl, ((Below.refl _ _).alloc (Nat.le_refl _) _).trans (HB.out.mono (by simp))⟩
theorem cell_any (w : World) (z : Int) (h0 : 0 ≤ z) (h1 : z < 18446744073709551616) : Calls Tryd.prog 42 #[.int .u64 z] w fun e w' => e = .returned (.int .i64 (cellM z)) ∧ w' = w := by
  by_cases h : 999999999999999999 < z
  · have e1 : cellM z = -1 := by unfold cellM; rw [if_pos h]
    have b : decide ((999999999999999999 : Int) < z) = true := decide_eq_true h
    rw [e1]
    go_enter Tryd.func42, Tryd.ntmps42
    go_wp2_with fail
    go_ret
    exact ⟨rfl, rfl⟩
  · have e1 : cellM z = z := by unfold cellM; rw [if_neg h]
    have b : decide ((999999999999999999 : Int) < z) = false := decide_eq_false h
    have hw : IntKind.i64.wrap z = z := IntWalk.i64_in _ (by omega)
    rw [e1]
    go_enter Tryd.func42, Tryd.ntmps42
    go_wp2_with fail
    go_ret
    exact ⟨by simp [*], rfl⟩
set_option maxHeartbeats 16000000 in
theorem rright_any (w : World) (x : ActL) : Calls Tryd.prog 13 #[encA x] w fun e w' => e = .returned (.bool (rightA x)) ∧ Below w.heap.size w w' := by
  have heq := @act_eq5
  obtain ⟨k, b, c, o, n⟩ := x
  unfold encA cellsA
  dsimp only
  by_cases hc : c < 0
  · have b0 : decide (c < 0) = true := decide_eq_true hc
    have hr : rightA ⟨k, b, c, o, n⟩ = false := by
      unfold rightA
      have : decide (0 ≤ c) = false := decide_eq_false (by omega)
      dsimp only
      rw [this]
      simp
    rw [hr]
    clear hr
    go_enter Tryd.func13, Tryd.ntmps13
    go_wp2_with fail
    go_ret
    exact ⟨rfl, (Below.refl _ _).alloc (Nat.le_refl _) _⟩
  have b0 : decide (c < 0) = false := decide_eq_false hc
  by_cases h0 : k = 0
  · subst h0
    go_enter Tryd.func13, Tryd.ntmps13
    go_wp2_with fail
    all_goals
      go_ret
      refine ⟨bool_eq ?_, by first | exact (Below.refl _ _).alloc (Nat.le_refl _) _ | exact ((Below.refl _ _).alloc (Nat.le_refl _) _).alloc (by simp) _⟩
      first
        | (unfold rightA want; simp [*]; done)
        | (unfold rightA want; simp [*]; omega)
        | (unfold rightA want; simp; omega)
        | (unfold rightA want; simp_all; done)
        | (unfold rightA want; simp_all; omega)
  by_cases h1 : k = 1
  · subst h1
    go_enter Tryd.func13, Tryd.ntmps13
    go_wp2_with fail
    all_goals
      go_ret
      refine ⟨bool_eq ?_, by first | exact (Below.refl _ _).alloc (Nat.le_refl _) _ | exact ((Below.refl _ _).alloc (Nat.le_refl _) _).alloc (by simp) _⟩
      first
        | (unfold rightA want; simp [*]; done)
        | (unfold rightA want; simp [*]; omega)
        | (unfold rightA want; simp; omega)
        | (unfold rightA want; simp_all; done)
        | (unfold rightA want; simp_all; omega)
  by_cases h2 : k = 2
  · subst h2
    go_enter Tryd.func13, Tryd.ntmps13
    go_wp2_with fail
    all_goals
      go_ret
      refine ⟨bool_eq ?_, by first | exact (Below.refl _ _).alloc (Nat.le_refl _) _ | exact ((Below.refl _ _).alloc (Nat.le_refl _) _).alloc (by simp) _⟩
      first
        | (unfold rightA want; simp [*]; done)
        | (unfold rightA want; simp [*]; omega)
        | (unfold rightA want; simp; omega)
        | (unfold rightA want; simp_all; done)
        | (unfold rightA want; simp_all; omega)
  by_cases h3 : k = 3
  · subst h3
    go_enter Tryd.func13, Tryd.ntmps13
    go_wp2_with fail
    all_goals
      go_ret
      refine ⟨bool_eq ?_, by first | exact (Below.refl _ _).alloc (Nat.le_refl _) _ | exact ((Below.refl _ _).alloc (Nat.le_refl _) _).alloc (by simp) _⟩
      first
        | (unfold rightA want; simp [*]; done)
        | (unfold rightA want; simp [*]; omega)
        | (unfold rightA want; simp; omega)
        | (unfold rightA want; simp_all; done)
        | (unfold rightA want; simp_all; omega)
  by_cases h4 : k = 4
  · subst h4
    go_enter Tryd.func13, Tryd.ntmps13
    go_wp2_with fail
    all_goals
      go_ret
      refine ⟨bool_eq ?_, by first | exact (Below.refl _ _).alloc (Nat.le_refl _) _ | exact ((Below.refl _ _).alloc (Nat.le_refl _) _).alloc (by simp) _⟩
      first
        | (unfold rightA want; simp [*]; done)
        | (unfold rightA want; simp [*]; omega)
        | (unfold rightA want; simp; omega)
        | (unfold rightA want; simp_all; done)
        | (unfold rightA want; simp_all; omega)
  by_cases h5 : k = 5
  · subst h5
    go_enter Tryd.func13, Tryd.ntmps13
    go_wp2_with fail
    all_goals
      go_ret
      refine ⟨bool_eq ?_, by first | exact (Below.refl _ _).alloc (Nat.le_refl _) _ | exact ((Below.refl _ _).alloc (Nat.le_refl _) _).alloc (by simp) _⟩
      first
        | (unfold rightA want; simp [*]; done)
        | (unfold rightA want; simp [*]; omega)
        | (unfold rightA want; simp; omega)
        | (unfold rightA want; simp_all; done)
        | (unfold rightA want; simp_all; omega)
  by_cases h6 : k = 6
  · subst h6
    go_enter Tryd.func13, Tryd.ntmps13
    go_wp2_with fail
    all_goals
      go_ret
      refine ⟨bool_eq ?_, by first | exact (Below.refl _ _).alloc (Nat.le_refl _) _ | exact ((Below.refl _ _).alloc (Nat.le_refl _) _).alloc (by simp) _⟩
      first
        | (unfold rightA want; simp [*]; done)
        | (unfold rightA want; simp [*]; omega)
        | (unfold rightA want; simp; omega)
        | (unfold rightA want; simp_all; done)
        | (unfold rightA want; simp_all; omega)
  have b0 : (k == 0) = false := by rw [beq_eq_false_iff_ne]; exact h0
  have b1 : (k == 1) = false := by rw [beq_eq_false_iff_ne]; exact h1
  have b2 : (k == 2) = false := by rw [beq_eq_false_iff_ne]; exact h2
  have b3 : (k == 3) = false := by rw [beq_eq_false_iff_ne]; exact h3
  have b4 : (k == 4) = false := by rw [beq_eq_false_iff_ne]; exact h4
  have b5 : (k == 5) = false := by rw [beq_eq_false_iff_ne]; exact h5
  have b6 : (k == 6) = false := by rw [beq_eq_false_iff_ne]; exact h6
  have hr : rightA ⟨k, b, c, o, n⟩ = false := by
    unfold rightA
    have : decide (0 ≤ k ∧ k ≤ 6) = false := decide_eq_false (by omega)
    dsimp only
    rw [this]
    simp
  rw [hr]
  clear hr
  by_cases hn : k < 0
  · have c1 : decide (1 ≤ k) = false := decide_eq_false (by omega)
    have c0 : decide (0 ≤ k) = false := decide_eq_false (by omega)
    go_enter Tryd.func13, Tryd.ntmps13
    go_wp2_with fail
    all_goals
      go_ret
      exact ⟨by first | rfl | simp [*], by first | exact (Below.refl _ _).alloc (Nat.le_refl _) _ | exact ((Below.refl _ _).alloc (Nat.le_refl _) _).alloc (by simp) _⟩
  · have c1 : decide (1 ≤ k) = true := decide_eq_true (by omega)
    have c5 : decide (k ≤ 5) = false := decide_eq_false (by omega)
    have c0 : decide (0 ≤ k) = true := decide_eq_true (by omega)
    have c6 : decide (k ≤ 6) = false := decide_eq_false (by omega)
    go_enter Tryd.func13, Tryd.ntmps13
    go_wp2_with fail
    all_goals
      go_ret
      exact ⟨by first | rfl | simp [*], by first | exact (Below.refl _ _).alloc (Nat.le_refl _) _ | exact ((Below.refl _ _).alloc (Nat.le_refl _) _).alloc (by simp) _⟩
end Go.Proofs.YtdibkhddhgaghaaDoor.Ac
