-- PRINTED BY print.sh 35421559b90ae4d0a3588c463048766b98c2df88dd9212a6774a882060cdf62d: not written by this session
import Derived.Test.YtaodaonbkfgoeaaPMixTellsx0
namespace Go.Proofs.Ytaodaonbkfgoeaa.PMixTells
open Go.RowKit Go.Proofs.YtaodaonbkfgoeaaW.PrintWords Go.Proofs.YtaodaonbkfgoeaaW.PrintLast Go.Proofs.YtaodaonbkfgoeaaW.PrintMore
attribute [local go_sem] max2_int min2_int max_two min_two max_three min_three max_four min_four   -- for this text's walks alone
set_option linter.unusedVariables false
set_option linter.unusedSimpArgs false

/-! ### sprocketref03_Whole: function 16 -/
def sprocketref03_Whole.f (a0 : Int) (a1 : Int) : Option (Int) := if a0 ≥ 144115188075855872 then (some 0) else (if a1 < 128 then (some 0) else (if a1 > 255 then (some 0) else (some (IntKind.u64.wrap ((IntKind.u64.wrap (a0 * 128)) + (IntKind.u64.wrap (wrap64 (a1 - 128))))))))
set_option maxHeartbeats 8000000 in
set_option maxRecDepth 100000 in
theorem sprocketref03_Whole.calls (a0 : Int) (a1 : Int) (r : Int) (w : World) (h : sprocketref03_Whole.f a0 a1 = some r) :
    Calls Try.prog 16 #[.int .u64 a0, .int .i64 a1] w fun e w' => e = .returned (.int .u64 r) ∧ Drawn0 w w' := by
  have H : (if a0 ≥ 144115188075855872 then (some 0) else (if a1 < 128 then (some 0) else (if a1 > 255 then (some 0) else (some (IntKind.u64.wrap ((IntKind.u64.wrap (a0 * 128)) + (IntKind.u64.wrap (wrap64 (a1 - 128))))))))) = some r := h
  clear h
  by_cases c3 : a0 ≥ 144115188075855872
  · rw [if_pos c3] at H
    have c3b0 : decide (144115188075855872 ≤ a0) = true := decide_eq_true c3
    clear c3
    obtain rfl := Option.some.inj H
    go_enter Try.func16, Try.ntmps16
    go_wp2
    go_ret
    exact ⟨by first | rfl | (simp; done) | (simp [*]; done), by repeat (first | exact Drawn0.refl _ | apply Drawn0.step)⟩
  · rw [if_neg c3] at H
    have c3b0 : decide (144115188075855872 ≤ a0) = false := decide_eq_false c3
    clear c3
    by_cases c4 : a1 < 128
    · rw [if_pos c4] at H
      have c4b0 : decide (a1 < 128) = true := decide_eq_true c4
      clear c4
      obtain rfl := Option.some.inj H
      go_enter Try.func16, Try.ntmps16
      go_wp2
      go_ret
      exact ⟨by first | rfl | (simp; done) | (simp [*]; done), by repeat (first | exact Drawn0.refl _ | apply Drawn0.step)⟩
    · rw [if_neg c4] at H
      have c4b0 : decide (a1 < 128) = false := decide_eq_false c4
      clear c4
      by_cases c5 : a1 > 255
      · rw [if_pos c5] at H
        have c5b0 : decide (255 < a1) = true := decide_eq_true c5
        clear c5
        obtain rfl := Option.some.inj H
        go_enter Try.func16, Try.ntmps16
        go_wp2
        go_ret
        exact ⟨by first | rfl | (simp; done) | (simp [*]; done), by repeat (first | exact Drawn0.refl _ | apply Drawn0.step)⟩
      · rw [if_neg c5] at H
        have c5b0 : decide (255 < a1) = false := decide_eq_false c5
        clear c5
        obtain rfl := Option.some.inj H
        go_enter Try.func16, Try.ntmps16
        go_wp2
        go_ret
        exact ⟨by first | rfl | (simp; done) | (simp [*]; done), by repeat (first | exact Drawn0.refl _ | apply Drawn0.step)⟩

-- NOT PRINTED: function 3 (sprocketlaw03_MixTells)

end Go.Proofs.Ytaodaonbkfgoeaa.PMixTells
