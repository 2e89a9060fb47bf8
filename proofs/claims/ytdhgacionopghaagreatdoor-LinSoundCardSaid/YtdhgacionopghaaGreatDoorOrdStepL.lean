/- order: answers that may be, and the map behind them. -/
import Derived.Test.YtdhgacionopghaaGreatDoorOrdCheck
namespace Go.Proofs.YtdhgacionopghaaGreatDoor.Od
open Go.RowKit Go.Shelf Dc DcM DcW DcI DcR DcL Sp
set_option linter.unusedVariables false
theorem errI_ne2 (l : List CV) (row : List Int) (i : Nat) : errI l row i ≠ 2 := by
  unfold errI
  split
  · decide
  · split
    · decide
    · split
      · decide
      · split <;> decide
theorem check_ne2 {l : List CV} {row : List Int} (h : wholeB l row = true) : (checkM l row).2 ≠ 2 := by
  unfold checkM
  rw [h, if_pos rfl]
  split
  · exact errI_ne2 l row _
  · decide
theorem doR_err (m : List Pr) (o : OpL) : (doR m o).err ≠ 10 := by
  unfold doR
  repeat' split
  all_goals first | decide | (show (0 : Int) ≠ 10; decide)
theorem allows_step {m : List Pr} {o : OpL} {r : Rep} (h : allowsB m o r = true) (t i b e : Int) : allowsM m o r = stepM m ⟨t, i, o, b, e, true, r⟩ := by
  unfold allowsM stepM
  unfold allowsB at h
  cases hs : sameR (doR m o) r with
  | true =>
    have h1 : (doR m o).err = r.err := by
      unfold sameR at hs
      simp only [Bool.and_eq_true, decide_eq_true_eq] at hs
      exact hs.1.1.1.1.1
    have h2 := doR_err m o
    rw [h1] at h2
    simp [h2]
  | false =>
    rw [hs, Bool.false_or] at h
    simp only [Bool.and_eq_true] at h
    have h3 : r.err = 10 := by
      have := h.1.1
      unfold sameR at this
      simp only [Bool.and_eq_true, decide_eq_true_eq] at this
      exact this.1.1.1.1.1
    simp [h3]
end Go.Proofs.YtdhgacionopghaaGreatDoor.Od
