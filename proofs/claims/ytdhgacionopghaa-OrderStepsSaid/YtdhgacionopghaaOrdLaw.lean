/- order: the laws OrderChecks and OrderSpans. -/
import Derived.Test.YtdhgacionopghaaOrdAwake
import Derived.Test.YtdhgacionopghaaOrdToursQ
import Derived.Test.YtdhgacionopghaaOrdCheckR
import Derived.Test.YtdhgacionopghaaOpenCalls
namespace Go.Proofs.Ytdhgacionopghaa.Od
open Go.RowKit Go.Shelf Dc DcM DcW DcI DcR DcL Sp
set_option linter.unusedVariables false
set_option linter.unusedSimpArgs false
theorem light_parts {l : List CV} {row : List Int} (h : lightB l row = true) : l.length < 1000000 ∧ row.length < 10000 ∧ row.length ≤ 40 ∧ ∀ (j : Nat) (q : CV), l[j]? = some q → q.1.reply.pairs.length < 100000 := by
  unfold lightB at h
  simp only [Bool.and_eq_true, decide_eq_true_eq] at h
  obtain ⟨⟨h1, h2⟩, h3⟩ := h
  refine ⟨by omega, by omega, h3, fun j q hq => ?_⟩
  have hj := (List.getElem?_eq_some_iff.1 hq).1
  have hm : q ∈ l.take 30 := List.mem_of_getElem? (i := j) (by rw [List.getElem?_take_of_lt (by omega)]; exact hq)
  have := List.all_eq_true.1 h1 q hm
  unfold smallB at this
  simp only [Bool.and_eq_true, decide_eq_true_eq] at this
  omega

set_option maxRecDepth 100000 in
set_option maxHeartbeats 8000000 in
theorem orderchecks_any (w : World) (v : Value) (l : List CV) (h : Cls w v l) (hn : l.length ≤ maxLen) (u : Value) (row : List Int) (h' : Its w u row) (hn' : row.length ≤ maxLen) :
    Calls Try.prog 6 #[v, u] w fun e w' => e = .returned (.bool true) ∧ Below w.heap.size w w' := by
  have HL := Lib.hid h
  have HR := Lib.hid h'
  have CL := Lib.hid (light_any w v u l row h h' hn hn')
  obtain ⟨A, cap, rfl, _⟩ := h
  obtain ⟨B, capB, rfl, _, _⟩ := h'
  go_enter Try.func6, Try.ntmps6
  go_wp2_with fail
  refine CL.out.mono ?_
  cases hli : lightB l row with
  | false =>
    rintro e w1 ⟨rfl, hw1⟩
    subst hw1
    clear hli
    go_wp2_with fail
    refine (awake_o _).mono ?_
    rintro e w2 ⟨rfl, hb2⟩
    have B2 := Lib.hid hb2
    clear hb2
    go_wp2_with fail
    go_ret
    exact ⟨rfl, B2.out⟩
  | true =>
    rintro e w1 ⟨rfl, hw1⟩
    subst hw1
    obtain ⟨hln, hrn, hr40, hlp⟩ := light_parts hli
    have HLP := Lib.hid hlp
    clear hli hlp
    go_wp2_with fail
    obtain ⟨cn, hcn⟩ : ∃ x, x = (checkM l row).1 := ⟨_, rfl⟩
    obtain ⟨ce, hce⟩ : ∃ x, x = (checkM l row).2 := ⟨_, rfl⟩
    have C1 := fun W (hw : Below w1.heap.size w1 W) => check_any W _ _ l row (HL.out.below hw) (HR.out.below hw) hln hrn HLP.out
    have C2 := fun W (hw : Below w1.heap.size w1 W) => checkR_any W _ _ l row (HL.out.below hw) (HR.out.below hw) hln hrn HLP.out
    rw [← hcn, ← hce] at C1 C2
    have H1 := Lib.hid C1
    have H2 := Lib.hid C2
    clear hcn hce C1 C2
    refine (H1.out w1 (Below.refl _ _)).mono ?_
    rintro e w2 ⟨rfl, hb2⟩
    have B2 := Lib.hid (hb2)
    clear hb2
    go_wp2_with fail
    refine (H2.out w2 B2.out).mono ?_
    rintro e w3 ⟨rfl, hb3⟩
    have B3 := Lib.hid (B2.out.trans (hb3.mono B2.out.size))
    clear hb3
    go_wp2_with fail
    refine (map_any _ _ _ l row (HL.out.below B3.out) (HR.out.below B3.out) hln hrn).mono ?_
    rintro e w4 ⟨v4, rfl, hp4, hb4⟩
    have P4 := Lib.hid hp4
    have B4 := Lib.hid (B3.out.trans (hb4.mono B3.out.size))
    obtain ⟨A4, c4, rfl, _, _⟩ := hp4
    clear hb4
    go_wp2_with fail
    have CB := behind_ref w4 _ _ l row row.length (HL.out.below B4.out) (HR.out.below B4.out) hln hrn (Nat.le_refl _)
    rw [List.take_length] at CB
    have HCB := Lib.hid CB
    clear CB
    refine HCB.out.mono ?_
    rintro e w5 ⟨v5, rfl, hp5, hb5⟩
    have P4' := Lib.hid (P4.out.below hb5)
    have P5 := Lib.hid hp5
    have B5 := Lib.hid (B4.out.trans (hb5.mono B4.out.size))
    obtain ⟨A5, c5, rfl, _, _⟩ := hp5
    clear hb5
    go_wp2_with fail
    have hml := behind_small l row row.length hrn
    rw [List.take_length] at hml
    refine (same_ref w5 _ _ (behindM l row) (behindM l row) P4'.out P5.out hml).mono ?_
    rw [decide_eq_true (rfl : behindM l row = behindM l row)]
    rintro e w6 ⟨rfl, n6, rfl⟩
    have B6 := Lib.hid (below_drewN B5.out n6)
    go_wp2_with fail
    refine (awake_o _).mono ?_
    rintro e w9 ⟨rfl, hb9⟩
    have B9 := Lib.hid (B6.out.trans (hb9.mono B6.out.size))
    clear hb9
    go_wp2_with fail
    go_ret
    exact ⟨rfl, B9.out⟩

set_option maxRecDepth 100000 in
set_option maxHeartbeats 8000000 in
theorem orderspans_any (w : World) (v : Value) (l : List CV) (h : Cls w v l) (hn : l.length ≤ maxLen) (u : Value) (row : List Int) (h' : Its w u row) (hn' : row.length ≤ maxLen) (at_ : Int) :
    Calls Try.prog 7 #[v, u, .int .i64 at_] w fun e w' => e = .returned (.bool true) ∧ Below w.heap.size w w' := by
  have HL := Lib.hid h
  have HR := Lib.hid h'
  have CL := Lib.hid (light_any w v u l row h h' hn hn')
  obtain ⟨A, cap, rfl, _⟩ := h
  obtain ⟨B, capB, rfl, _, _⟩ := h'
  go_enter Try.func7, Try.ntmps7
  go_wp2_with fail
  refine CL.out.mono ?_
  cases hli : lightB l row with
  | false =>
    rintro e w1 ⟨rfl, hw1⟩
    subst hw1
    clear hli
    go_wp2_with fail
    refine (awake_o _).mono ?_
    rintro e w2 ⟨rfl, hb2⟩
    have B2 := Lib.hid hb2
    clear hb2
    go_wp2_with fail
    go_ret
    exact ⟨rfl, B2.out⟩
  | true =>
    rintro e w1 ⟨rfl, hw1⟩
    subst hw1
    obtain ⟨hln, hrn, hr40, hlp⟩ := light_parts hli
    have HLP := Lib.hid hlp
    clear hli hlp
    go_wp2_with fail
    obtain ⟨tn, htn⟩ : ∃ x, x = (toursM l row).1 := ⟨_, rfl⟩
    obtain ⟨ti, hti⟩ : ∃ x, x = (toursM l row).2 := ⟨_, rfl⟩
    obtain ⟨sf, hsf⟩ : ∃ x, x = spanF l row at_ := ⟨_, rfl⟩
    obtain ⟨st, hst⟩ : ∃ x, x = spanT l row at_ := ⟨_, rfl⟩
    have C1 := fun W (hw : Below w1.heap.size w1 W) => tours_any W _ _ l row (HL.out.below hw) (HR.out.below hw) hln hrn HLP.out
    have C2 := fun W (hw : Below w1.heap.size w1 W) => toursR_any W _ _ l row (HL.out.below hw) (HR.out.below hw) hln hrn HLP.out
    have C3 := fun W (hw : Below w1.heap.size w1 W) => span_any W _ _ l row at_ (HL.out.below hw) (HR.out.below hw) hln hrn
    have C4 := fun W (hw : Below w1.heap.size w1 W) => span_ref W _ _ l row at_ (HL.out.below hw) (HR.out.below hw) hln hrn
    rw [← htn, ← hti] at C1 C2
    rw [← hsf, ← hst] at C3 C4
    have H1 := Lib.hid C1
    have H2 := Lib.hid C2
    have H3 := Lib.hid C3
    have H4 := Lib.hid C4
    clear htn hti hsf hst C1 C2 C3 C4
    cases ti
    all_goals
      refine (H1.out w1 (Below.refl _ _)).mono ?_
      rintro e w2 ⟨rfl, hb2⟩
      have B2 := Lib.hid (hb2)
      clear hb2
      go_wp2_with fail
      refine (H2.out w2 B2.out).mono ?_
      rintro e w3 ⟨rfl, hb3⟩
      have B3 := Lib.hid (B2.out.trans (hb3.mono B2.out.size))
      clear hb3
      go_wp2_with fail
      refine (H3.out w3 B3.out).mono ?_
      rintro e w4 ⟨rfl, hb4⟩
      have B4 := Lib.hid (B3.out.trans (hb4.mono B3.out.size))
      clear hb4
      go_wp2_with fail
      refine (H4.out w4 B4.out).mono ?_
      rintro e w5 ⟨rfl, hb5⟩
      have B5 := Lib.hid (B4.out.trans (hb5.mono B4.out.size))
      clear hb5
      go_wp2_with fail
      refine (awake_o _).mono ?_
      rintro e w9 ⟨rfl, hb9⟩
      have B9 := Lib.hid (B5.out.trans (hb9.mono B5.out.size))
      clear hb9
      go_wp2_with fail
      go_ret
      exact ⟨rfl, B9.out⟩
end Go.Proofs.Ytdhgacionopghaa.Od
