-- PRINTED BY print.sh 35421559b90ae4d0a3588c463048766b98c2df88dd9212a6774a882060cdf62d: not written by this session
import Derived.Test.YtaodaonbkfgoeaaPMixTellsx0
namespace Go.Proofs.Ytaodaonbkfgoeaa.PMixTells
open Go.RowKit Go.Proofs.YtaodaonbkfgoeaaW.PrintWords Go.Proofs.YtaodaonbkfgoeaaW.PrintLast Go.Proofs.YtaodaonbkfgoeaaW.PrintMore
attribute [local go_sem] max2_int min2_int max_two min_two max_three min_three max_four min_four   -- for this text's walks alone
set_option linter.unusedVariables false
set_option linter.unusedSimpArgs false

/-! ### mix_byteAt: function 30 -/
def mix_byteAt.f (a0 : ByteArray) (a1 : Int) : Option (Int) := if 0 ≤ a1 then (if a1 < (a0.size : Int) then (some (wrap32 (bt a0 a1))) else (none)) else (none)
set_option maxHeartbeats 8000000 in
set_option maxRecDepth 100000 in
theorem mix_byteAt.calls (a0 : ByteArray) (a1 : Int) (r : Int) (w : World) (h : mix_byteAt.f a0 a1 = some r) :
    Calls Try.prog 30 #[.string a0, .int .i64 a1] w fun e w' => e = .returned (.int .i32 r) ∧ Drawn0 w w' := by
  have H : (if 0 ≤ a1 then (if a1 < (a0.size : Int) then (some (wrap32 (bt a0 a1))) else (none)) else (none)) = some r := h
  clear h
  by_cases c3 : 0 ≤ a1
  · rw [if_pos c3] at H
    have c3b0 : decide (0 ≤ a1) = true := decide_eq_true c3
    clear c3
    by_cases c4 : a1 < (a0.size : Int)
    · rw [if_pos c4] at H
      have c4b0 : decide (a1 < (a0.size : Int)) = true := decide_eq_true c4
      clear c4
      obtain rfl := Option.some.inj H
      have p5 : 0 ≤ (a1 : Int) := of_decide_eq_true (by first | (with_reducible assumption) | assumption)
      have q5 : a1 < (a0.size : Int) := of_decide_eq_true (by first | (with_reducible assumption) | assumption)
      have hx5 := bt_at a0 a1
      replace p5 := eq_true p5
      replace q5 := eq_true q5
      go_enter Try.func30, Try.ntmps30
      go_wp2
      go_ret
      exact ⟨by first | rfl | (simp; done) | (simp [*]; done), by repeat (first | exact Drawn0.refl _ | apply Drawn0.step)⟩
    · rw [if_neg c4] at H
      exact absurd H (by simp)
  · rw [if_neg c3] at H
    exact absurd H (by simp)

/-! ### mix_Hash: function 9 -/
def mix_Hash.l0 : Nat → ByteArray → Int → Int → Int → Option (Int)
  | 0, _, _, _, _ => none
  | k + 1, x1, x5, x9, x10 => if x10 < x9 then ((mix_byteAt.f x1 x10).bind fun t101 => (mix_Hash.l0 k x1 (IntKind.u64.wrap ((Go.bits .xor .u64 x5 (IntKind.u64.wrap (t101))) * 1099511628211)) x9 (wrap64 (x10 + 1)))) else (some (Go.bits .xor .u64 (IntKind.u64.wrap ((Go.bits .xor .u64 x5 (x5 / 4294967296)) * 11400714819323198485)) ((IntKind.u64.wrap ((Go.bits .xor .u64 x5 (x5 / 4294967296)) * 11400714819323198485)) / 536870912)))
def mix_Hash.f (k : Nat) (a0 : Int) (a1 : ByteArray) : Option (Int) := mix_Hash.l0 k a1 a0 (a1.size : Int) 0
theorem mix_Hash.mono_l : ∀ k, (∀ y0 y1 y2 y3, LeO (mix_Hash.l0 k y0 y1 y2 y3) (mix_Hash.l0 (k + 1) y0 y1 y2 y3))
  | 0 => fun _ _ _ _ r h => by simp [mix_Hash.l0] at h
  | k + 1 => by
    have ih0 := mix_Hash.mono_l k
    · intro y0 y1 y2 y3
      unfold mix_Hash.l0
      repeat' first
      | (with_reducible exact ih0 _ _ _ _)
      | (with_reducible exact LeO.refl _)
      | (with_reducible exact LeO.none _)
      | (with_reducible refine LeO.ite ?_ ?_)
      | (with_reducible refine LeO.bind ?_ (fun _ => ?_))
      | exact ih0 _ _ _ _
      | exact LeO.none _
      | refine LeO.ite ?_ ?_
      | refine LeO.bind ?_ (fun _ => ?_)
theorem mix_Hash.mono : ∀ a0 a1 k, LeO (mix_Hash.f k a0 a1) (mix_Hash.f (k + 1) a0 a1) := by
  intro a0 a1 k
  have ih0 := mix_Hash.mono_l k
  unfold mix_Hash.f
  repeat' first
      | (with_reducible exact ih0 _ _ _ _)
      | (with_reducible exact LeO.refl _)
      | (with_reducible exact LeO.none _)
      | (with_reducible refine LeO.ite ?_ ?_)
      | (with_reducible refine LeO.bind ?_ (fun _ => ?_))
      | exact ih0 _ _ _ _
      | exact LeO.none _
      | refine LeO.ite ?_ ?_
      | refine LeO.bind ?_ (fun _ => ?_)
set_option maxHeartbeats 8000000 in
set_option maxRecDepth 100000 in
theorem mix_Hash.calls (k : Nat) (a0 : Int) (a1 : ByteArray) (r : Int) (w : World) (h : mix_Hash.f k a0 a1 = some r) :
    Calls Try.prog 9 #[.int .u64 a0, .string a1] w fun e w' => e = .returned (.int .u64 r) ∧ Drawn0 w w' := by
  have H : (mix_Hash.l0 k a1 a0 (a1.size : Int) 0) = some r := h
  clear h
  have H' := Aside0.mk H
  clear H
  go_enter Try.func9, Try.ntmps9
  go_wp2
  go_loopg [5, 10] k (fun kq v5 v10 w' => ∃ (x5_1 : Int) (x10_1 : Int), v5 = .int .u64 x5_1 ∧ v10 = .int .i64 x10_1 ∧ Aside0 (mix_Hash.l0 kq a1 x5_1 (a1.size : Int) x10_1 = some r) ∧ Aside0 (kq ≤ k) ∧ Drawn0 w w')
  case atStart => exact ⟨(a0), (0), (by first | rfl | (simp; done) | (simp [*]; done)), (by first | rfl | (simp; done) | (simp [*]; done)), H', ⟨Nat.le_refl _⟩, by repeat (first | exact Drawn0.refl _ | apply Drawn0.step)⟩
  case round =>
    clear H'
    try clear p2
    obtain ⟨x5_1, x10_1, rfl, rfl, HA, HK1, ⟨m1, rfl⟩⟩ := hrel
    cases gk with
    | zero => exact absurd HA.out (by simp [mix_Hash.l0])
    | succ k1 =>
      have H := HA.out
      clear HA
      simp only [mix_Hash.l0] at H
      by_cases c3 : x10_1 < (a1.size : Int)
      · rw [if_pos c3] at H
        have c3b0 : decide (x10_1 < (a1.size : Int)) = true := decide_eq_true c3
        clear c3
        replace H := Option.bind_eq_some_iff.mp H
        obtain ⟨t101, A40, H⟩ := H
        replace H : (mix_Hash.l0 k1 a1 (IntKind.u64.wrap ((Go.bits .xor .u64 x5_1 (IntKind.u64.wrap (t101))) * 1099511628211)) (a1.size : Int) (wrap64 (x10_1 + 1))) = some r := H
        have A4 := Aside0.mk A40
        clear A40
        have H' := Aside0.mk H
        clear H
        go_wp2_with (first | ((with_reducible refine gate_callee (f := 30) rfl ?_); refine goesL_ (some 16) rfl rfl Try.func30 (by kernel_rfl) rfl #[.string a1, .int .i64 x10_1] rfl (by (try simp only [List.map_toArray, List.map_cons, List.map_nil]); first | done | rfl | (simp only [List.length_drop, List.length_take]; rfl)) ?_; (with_reducible refine (mix_byteAt.calls a1 x10_1 t101 _ A4.out).mono ?_); rintro e w' ⟨rfl, ⟨nd, rfl⟩⟩; refine ⟨_, rfl, ?_⟩))
        go_roundg k1
        case measure => have := HK1.out; omega
        case rel => exact ⟨(IntKind.u64.wrap ((Go.bits .xor .u64 x5_1 (IntKind.u64.wrap (t101))) * 1099511628211)), (wrap64 (x10_1 + 1)), (by first | rfl | (simp; done) | (simp [*]; done)), (by first | rfl | (simp; done) | (simp [*]; done)), H', ⟨by have := HK1.out; omega⟩, by repeat (first | exact Drawn0.refl _ | apply Drawn0.step)⟩
      · rw [if_neg c3] at H
        have c3b0 : decide (x10_1 < (a1.size : Int)) = false := decide_eq_false c3
        clear c3
        obtain rfl := Option.some.inj H
        go_wp2
        go_ret
        exact ⟨by first | rfl | (simp; done) | (simp [*]; done), by repeat (first | exact Drawn0.refl _ | apply Drawn0.step)⟩

/-! ### mix_Start: function 11 -/
def mix_Start.f (a0 : Int) : Option (Int) := some (a0 / 128)
set_option maxHeartbeats 8000000 in
set_option maxRecDepth 100000 in
theorem mix_Start.calls (a0 : Int) (r : Int) (w : World) (h : mix_Start.f a0 = some r) :
    Calls Try.prog 11 #[.int .u64 a0] w fun e w' => e = .returned (.int .u64 r) ∧ Drawn0 w w' := by
  have H : (some (a0 / 128)) = some r := h
  clear h
  obtain rfl := Option.some.inj H
  go_enter Try.func11, Try.ntmps11
  go_wp2
  go_ret
  exact ⟨by first | rfl | (simp; done) | (simp [*]; done), by repeat (first | exact Drawn0.refl _ | apply Drawn0.step)⟩

/-! ### mix_Claim: function 13 -/
def mix_Claim.f (a0 : Int) : Option (Int) := some (wrap64 (Go.bits .or .u64 (Go.bits .and .u64 a0 127) 128))
set_option maxHeartbeats 8000000 in
set_option maxRecDepth 100000 in
theorem mix_Claim.calls (a0 : Int) (r : Int) (w : World) (h : mix_Claim.f a0 = some r) :
    Calls Try.prog 13 #[.int .u64 a0] w fun e w' => e = .returned (.int .i64 r) ∧ Drawn0 w w' := by
  have H : (some (wrap64 (Go.bits .or .u64 (Go.bits .and .u64 a0 127) 128))) = some r := h
  clear h
  obtain rfl := Option.some.inj H
  go_enter Try.func13, Try.ntmps13
  go_wp2
  go_ret
  exact ⟨by first | rfl | (simp; done) | (simp [*]; done), by repeat (first | exact Drawn0.refl _ | apply Drawn0.step)⟩

/-! ### mix_Whole: function 15 -/
def mix_Whole.f (a0 : Int) (a1 : Int) : Option (Int) := if (a0 / 144115188075855872) = 0 then (if (Go.bits .andNot .i64 a1 127) = 128 then (some (Go.bits .or .u64 (IntKind.u64.wrap (a0 * 128)) (IntKind.u64.wrap (Go.bits .and .i64 a1 127)))) else (some 0)) else (some 0)
set_option maxHeartbeats 8000000 in
set_option maxRecDepth 100000 in
theorem mix_Whole.calls (a0 : Int) (a1 : Int) (r : Int) (w : World) (h : mix_Whole.f a0 a1 = some r) :
    Calls Try.prog 15 #[.int .u64 a0, .int .i64 a1] w fun e w' => e = .returned (.int .u64 r) ∧ Drawn0 w w' := by
  have H : (if (a0 / 144115188075855872) = 0 then (if (Go.bits .andNot .i64 a1 127) = 128 then (some (Go.bits .or .u64 (IntKind.u64.wrap (a0 * 128)) (IntKind.u64.wrap (Go.bits .and .i64 a1 127)))) else (some 0)) else (some 0)) = some r := h
  clear h
  by_cases c3 : (a0 / 144115188075855872) = 0
  · rw [if_pos c3] at H
    have c3b0 : ((a0 / 144115188075855872) == 0) = true := beq_iff_eq.mpr c3
    have c3b1 : ((a0 / 144115188075855872) != 0) = false := bne_eq_false_iff_eq.mpr c3
    clear c3
    by_cases c4 : (Go.bits .andNot .i64 a1 127) = 128
    · rw [if_pos c4] at H
      have c4b0 : ((Go.bits .andNot .i64 a1 127) == 128) = true := beq_iff_eq.mpr c4
      have c4b1 : ((Go.bits .andNot .i64 a1 127) != 128) = false := bne_eq_false_iff_eq.mpr c4
      clear c4
      obtain rfl := Option.some.inj H
      go_enter Try.func15, Try.ntmps15
      go_wp2
      go_ret
      exact ⟨by first | rfl | (simp; done) | (simp [*]; done), by repeat (first | exact Drawn0.refl _ | apply Drawn0.step)⟩
    · rw [if_neg c4] at H
      have c4b0 : ((Go.bits .andNot .i64 a1 127) == 128) = false := beq_eq_false_iff_ne.mpr c4
      have c4b1 : ((Go.bits .andNot .i64 a1 127) != 128) = true := bne_iff_ne.mpr c4
      obtain rfl := Option.some.inj H
      go_enter Try.func15, Try.ntmps15
      go_wp2
      go_ret
      exact ⟨by first | rfl | (simp; done) | (simp [*]; done), by repeat (first | exact Drawn0.refl _ | apply Drawn0.step)⟩
  · rw [if_neg c3] at H
    have c3b0 : ((a0 / 144115188075855872) == 0) = false := beq_eq_false_iff_ne.mpr c3
    have c3b1 : ((a0 / 144115188075855872) != 0) = true := bne_iff_ne.mpr c3
    obtain rfl := Option.some.inj H
    go_enter Try.func15, Try.ntmps15
    go_wp2
    go_ret
    exact ⟨by first | rfl | (simp; done) | (simp [*]; done), by repeat (first | exact Drawn0.refl _ | apply Drawn0.step)⟩

/-! ### sprocketlaw03_awake: function 8 -/
def sprocketlaw03_awake.f (k : Nat)  : Option (Bool) := (mix_Hash.f k 0 (⟨#[]⟩ : ByteArray)).bind fun t102 => (if t102 = 0 then ((mix_Claim.f 5).bind fun t103 => (if t103 = 133 then ((mix_Start.f 256).bind fun t104 => (if t104 = 2 then ((mix_Whole.f 2 128).bind fun t105 => (if t105 = 256 then ((mix_Hash.f k 1 (⟨#[]⟩ : ByteArray)).bind fun t106 => (if t106 = 0 then (some false) else ((mix_Whole.f 2 127).bind fun t107 => (some (t107 == 0))))) else (some false))) else (some false))) else (some false))) else (some false))
theorem sprocketlaw03_awake.mono : ∀ k, LeO (sprocketlaw03_awake.f k ) (sprocketlaw03_awake.f (k + 1) ) := by
  intro  k
  unfold sprocketlaw03_awake.f
  repeat' first
      | (with_reducible exact mix_Hash.mono _ _ _)
      | (with_reducible exact LeO.refl _)
      | (with_reducible exact LeO.none _)
      | (with_reducible refine LeO.ite ?_ ?_)
      | (with_reducible refine LeO.bind ?_ (fun _ => ?_))
      | exact mix_Hash.mono _ _ _
      | exact LeO.none _
      | refine LeO.ite ?_ ?_
      | refine LeO.bind ?_ (fun _ => ?_)
set_option maxHeartbeats 8000000 in
set_option maxRecDepth 100000 in
theorem sprocketlaw03_awake.calls (k : Nat)  (r : Bool) (w : World) (h : sprocketlaw03_awake.f k  = some r) :
    Calls Try.prog 8 #[] w fun e w' => e = .returned (.bool r) ∧ Drawn0 w w' := by
  have H : ((mix_Hash.f k 0 (⟨#[]⟩ : ByteArray)).bind fun t102 => (if t102 = 0 then ((mix_Claim.f 5).bind fun t103 => (if t103 = 133 then ((mix_Start.f 256).bind fun t104 => (if t104 = 2 then ((mix_Whole.f 2 128).bind fun t105 => (if t105 = 256 then ((mix_Hash.f k 1 (⟨#[]⟩ : ByteArray)).bind fun t106 => (if t106 = 0 then (some false) else ((mix_Whole.f 2 127).bind fun t107 => (some (t107 == 0))))) else (some false))) else (some false))) else (some false))) else (some false))) = some r := h
  clear h
  replace H := Option.bind_eq_some_iff.mp H
  obtain ⟨t102, A10, H⟩ := H
  replace H : (if t102 = 0 then ((mix_Claim.f 5).bind fun t103 => (if t103 = 133 then ((mix_Start.f 256).bind fun t104 => (if t104 = 2 then ((mix_Whole.f 2 128).bind fun t105 => (if t105 = 256 then ((mix_Hash.f k 1 (⟨#[]⟩ : ByteArray)).bind fun t106 => (if t106 = 0 then (some false) else ((mix_Whole.f 2 127).bind fun t107 => (some (t107 == 0))))) else (some false))) else (some false))) else (some false))) else (some false)) = some r := H
  have A1 := Aside0.mk A10
  clear A10
  by_cases c2 : t102 = 0
  · rw [if_pos c2] at H
    have c2b0 : (t102 == 0) = true := beq_iff_eq.mpr c2
    have c2b1 : (t102 != 0) = false := bne_eq_false_iff_eq.mpr c2
    clear c2
    replace H := Option.bind_eq_some_iff.mp H
    obtain ⟨t103, A30, H⟩ := H
    replace H : (if t103 = 133 then ((mix_Start.f 256).bind fun t104 => (if t104 = 2 then ((mix_Whole.f 2 128).bind fun t105 => (if t105 = 256 then ((mix_Hash.f k 1 (⟨#[]⟩ : ByteArray)).bind fun t106 => (if t106 = 0 then (some false) else ((mix_Whole.f 2 127).bind fun t107 => (some (t107 == 0))))) else (some false))) else (some false))) else (some false)) = some r := H
    have A3 := Aside0.mk A30
    clear A30
    by_cases c4 : t103 = 133
    · rw [if_pos c4] at H
      have c4b0 : (t103 == 133) = true := beq_iff_eq.mpr c4
      have c4b1 : (t103 != 133) = false := bne_eq_false_iff_eq.mpr c4
      clear c4
      replace H := Option.bind_eq_some_iff.mp H
      obtain ⟨t104, A50, H⟩ := H
      replace H : (if t104 = 2 then ((mix_Whole.f 2 128).bind fun t105 => (if t105 = 256 then ((mix_Hash.f k 1 (⟨#[]⟩ : ByteArray)).bind fun t106 => (if t106 = 0 then (some false) else ((mix_Whole.f 2 127).bind fun t107 => (some (t107 == 0))))) else (some false))) else (some false)) = some r := H
      have A5 := Aside0.mk A50
      clear A50
      by_cases c6 : t104 = 2
      · rw [if_pos c6] at H
        have c6b0 : (t104 == 2) = true := beq_iff_eq.mpr c6
        have c6b1 : (t104 != 2) = false := bne_eq_false_iff_eq.mpr c6
        clear c6
        replace H := Option.bind_eq_some_iff.mp H
        obtain ⟨t105, A70, H⟩ := H
        replace H : (if t105 = 256 then ((mix_Hash.f k 1 (⟨#[]⟩ : ByteArray)).bind fun t106 => (if t106 = 0 then (some false) else ((mix_Whole.f 2 127).bind fun t107 => (some (t107 == 0))))) else (some false)) = some r := H
        have A7 := Aside0.mk A70
        clear A70
        by_cases c8 : t105 = 256
        · rw [if_pos c8] at H
          have c8b0 : (t105 == 256) = true := beq_iff_eq.mpr c8
          have c8b1 : (t105 != 256) = false := bne_eq_false_iff_eq.mpr c8
          clear c8
          replace H := Option.bind_eq_some_iff.mp H
          obtain ⟨t106, A90, H⟩ := H
          replace H : (if t106 = 0 then (some false) else ((mix_Whole.f 2 127).bind fun t107 => (some (t107 == 0)))) = some r := H
          have A9 := Aside0.mk A90
          clear A90
          by_cases c10 : t106 = 0
          · rw [if_pos c10] at H
            have c10b0 : (t106 == 0) = true := beq_iff_eq.mpr c10
            have c10b1 : (t106 != 0) = false := bne_eq_false_iff_eq.mpr c10
            clear c10
            obtain rfl := Option.some.inj H
            go_enter Try.func8, Try.ntmps8
            go_wp2_with (first | ((with_reducible refine gate_callee (f := 9) rfl ?_); refine goesL_ (some 1) rfl rfl Try.func9 (by kernel_rfl) rfl #[.int .u64 0, .string (⟨#[]⟩ : ByteArray)] rfl (by (try simp only [List.map_toArray, List.map_cons, List.map_nil]); first | done | rfl | (simp only [List.length_drop, List.length_take]; rfl)) ?_; (with_reducible refine (mix_Hash.calls k 0 (⟨#[]⟩ : ByteArray) t102 _ A1.out).mono ?_); rintro e w' ⟨rfl, ⟨nd, rfl⟩⟩; refine ⟨_, rfl, ?_⟩) | (go_at_call 13; (with_reducible refine (mix_Claim.calls 5 t103 _ A3.out).mono ?_); rintro e w' ⟨rfl, ⟨nd, rfl⟩⟩) | (go_at_call 11; (with_reducible refine (mix_Start.calls 256 t104 _ A5.out).mono ?_); rintro e w' ⟨rfl, ⟨nd, rfl⟩⟩) | (go_at_call 15; (with_reducible refine (mix_Whole.calls 2 128 t105 _ A7.out).mono ?_); rintro e w' ⟨rfl, ⟨nd, rfl⟩⟩) | (go_at_call 9; (with_reducible refine (mix_Hash.calls k 1 (⟨#[]⟩ : ByteArray) t106 _ A9.out).mono ?_); rintro e w' ⟨rfl, ⟨nd, rfl⟩⟩))
            go_ret
            exact ⟨by first | rfl | (simp; done) | (simp [*]; done), by repeat (first | exact Drawn0.refl _ | apply Drawn0.step)⟩
          · rw [if_neg c10] at H
            have c10b0 : (t106 == 0) = false := beq_eq_false_iff_ne.mpr c10
            have c10b1 : (t106 != 0) = true := bne_iff_ne.mpr c10
            replace H := Option.bind_eq_some_iff.mp H
            obtain ⟨t107, A110, H⟩ := H
            replace H : (some (t107 == 0)) = some r := H
            have A11 := Aside0.mk A110
            clear A110
            obtain rfl := Option.some.inj H
            go_enter Try.func8, Try.ntmps8
            go_wp2_with (first | ((with_reducible refine gate_callee (f := 9) rfl ?_); refine goesL_ (some 1) rfl rfl Try.func9 (by kernel_rfl) rfl #[.int .u64 0, .string (⟨#[]⟩ : ByteArray)] rfl (by (try simp only [List.map_toArray, List.map_cons, List.map_nil]); first | done | rfl | (simp only [List.length_drop, List.length_take]; rfl)) ?_; (with_reducible refine (mix_Hash.calls k 0 (⟨#[]⟩ : ByteArray) t102 _ A1.out).mono ?_); rintro e w' ⟨rfl, ⟨nd, rfl⟩⟩; refine ⟨_, rfl, ?_⟩) | (go_at_call 13; (with_reducible refine (mix_Claim.calls 5 t103 _ A3.out).mono ?_); rintro e w' ⟨rfl, ⟨nd, rfl⟩⟩) | (go_at_call 11; (with_reducible refine (mix_Start.calls 256 t104 _ A5.out).mono ?_); rintro e w' ⟨rfl, ⟨nd, rfl⟩⟩) | (go_at_call 15; (with_reducible refine (mix_Whole.calls 2 128 t105 _ A7.out).mono ?_); rintro e w' ⟨rfl, ⟨nd, rfl⟩⟩) | (go_at_call 9; (with_reducible refine (mix_Hash.calls k 1 (⟨#[]⟩ : ByteArray) t106 _ A9.out).mono ?_); rintro e w' ⟨rfl, ⟨nd, rfl⟩⟩) | (go_at_call 15; (with_reducible refine (mix_Whole.calls 2 127 t107 _ A11.out).mono ?_); rintro e w' ⟨rfl, ⟨nd, rfl⟩⟩))
            go_ret
            exact ⟨by first | rfl | (simp; done) | (simp [*]; done), by repeat (first | exact Drawn0.refl _ | apply Drawn0.step)⟩
        · rw [if_neg c8] at H
          have c8b0 : (t105 == 256) = false := beq_eq_false_iff_ne.mpr c8
          have c8b1 : (t105 != 256) = true := bne_iff_ne.mpr c8
          obtain rfl := Option.some.inj H
          go_enter Try.func8, Try.ntmps8
          go_wp2_with (first | ((with_reducible refine gate_callee (f := 9) rfl ?_); refine goesL_ (some 1) rfl rfl Try.func9 (by kernel_rfl) rfl #[.int .u64 0, .string (⟨#[]⟩ : ByteArray)] rfl (by (try simp only [List.map_toArray, List.map_cons, List.map_nil]); first | done | rfl | (simp only [List.length_drop, List.length_take]; rfl)) ?_; (with_reducible refine (mix_Hash.calls k 0 (⟨#[]⟩ : ByteArray) t102 _ A1.out).mono ?_); rintro e w' ⟨rfl, ⟨nd, rfl⟩⟩; refine ⟨_, rfl, ?_⟩) | (go_at_call 13; (with_reducible refine (mix_Claim.calls 5 t103 _ A3.out).mono ?_); rintro e w' ⟨rfl, ⟨nd, rfl⟩⟩) | (go_at_call 11; (with_reducible refine (mix_Start.calls 256 t104 _ A5.out).mono ?_); rintro e w' ⟨rfl, ⟨nd, rfl⟩⟩) | (go_at_call 15; (with_reducible refine (mix_Whole.calls 2 128 t105 _ A7.out).mono ?_); rintro e w' ⟨rfl, ⟨nd, rfl⟩⟩))
          go_ret
          exact ⟨by first | rfl | (simp; done) | (simp [*]; done), by repeat (first | exact Drawn0.refl _ | apply Drawn0.step)⟩
      · rw [if_neg c6] at H
        have c6b0 : (t104 == 2) = false := beq_eq_false_iff_ne.mpr c6
        have c6b1 : (t104 != 2) = true := bne_iff_ne.mpr c6
        obtain rfl := Option.some.inj H
        go_enter Try.func8, Try.ntmps8
        go_wp2_with (first | ((with_reducible refine gate_callee (f := 9) rfl ?_); refine goesL_ (some 1) rfl rfl Try.func9 (by kernel_rfl) rfl #[.int .u64 0, .string (⟨#[]⟩ : ByteArray)] rfl (by (try simp only [List.map_toArray, List.map_cons, List.map_nil]); first | done | rfl | (simp only [List.length_drop, List.length_take]; rfl)) ?_; (with_reducible refine (mix_Hash.calls k 0 (⟨#[]⟩ : ByteArray) t102 _ A1.out).mono ?_); rintro e w' ⟨rfl, ⟨nd, rfl⟩⟩; refine ⟨_, rfl, ?_⟩) | (go_at_call 13; (with_reducible refine (mix_Claim.calls 5 t103 _ A3.out).mono ?_); rintro e w' ⟨rfl, ⟨nd, rfl⟩⟩) | (go_at_call 11; (with_reducible refine (mix_Start.calls 256 t104 _ A5.out).mono ?_); rintro e w' ⟨rfl, ⟨nd, rfl⟩⟩))
        go_ret
        exact ⟨by first | rfl | (simp; done) | (simp [*]; done), by repeat (first | exact Drawn0.refl _ | apply Drawn0.step)⟩
    · rw [if_neg c4] at H
      have c4b0 : (t103 == 133) = false := beq_eq_false_iff_ne.mpr c4
      have c4b1 : (t103 != 133) = true := bne_iff_ne.mpr c4
      obtain rfl := Option.some.inj H
      go_enter Try.func8, Try.ntmps8
      go_wp2_with (first | ((with_reducible refine gate_callee (f := 9) rfl ?_); refine goesL_ (some 1) rfl rfl Try.func9 (by kernel_rfl) rfl #[.int .u64 0, .string (⟨#[]⟩ : ByteArray)] rfl (by (try simp only [List.map_toArray, List.map_cons, List.map_nil]); first | done | rfl | (simp only [List.length_drop, List.length_take]; rfl)) ?_; (with_reducible refine (mix_Hash.calls k 0 (⟨#[]⟩ : ByteArray) t102 _ A1.out).mono ?_); rintro e w' ⟨rfl, ⟨nd, rfl⟩⟩; refine ⟨_, rfl, ?_⟩) | (go_at_call 13; (with_reducible refine (mix_Claim.calls 5 t103 _ A3.out).mono ?_); rintro e w' ⟨rfl, ⟨nd, rfl⟩⟩))
      go_ret
      exact ⟨by first | rfl | (simp; done) | (simp [*]; done), by repeat (first | exact Drawn0.refl _ | apply Drawn0.step)⟩
  · rw [if_neg c2] at H
    have c2b0 : (t102 == 0) = false := beq_eq_false_iff_ne.mpr c2
    have c2b1 : (t102 != 0) = true := bne_iff_ne.mpr c2
    obtain rfl := Option.some.inj H
    go_enter Try.func8, Try.ntmps8
    go_wp2_with (first | ((with_reducible refine gate_callee (f := 9) rfl ?_); refine goesL_ (some 1) rfl rfl Try.func9 (by kernel_rfl) rfl #[.int .u64 0, .string (⟨#[]⟩ : ByteArray)] rfl (by (try simp only [List.map_toArray, List.map_cons, List.map_nil]); first | done | rfl | (simp only [List.length_drop, List.length_take]; rfl)) ?_; (with_reducible refine (mix_Hash.calls k 0 (⟨#[]⟩ : ByteArray) t102 _ A1.out).mono ?_); rintro e w' ⟨rfl, ⟨nd, rfl⟩⟩; refine ⟨_, rfl, ?_⟩))
    go_ret
    exact ⟨by first | rfl | (simp; done) | (simp [*]; done), by repeat (first | exact Drawn0.refl _ | apply Drawn0.step)⟩

/-! ### sprocketref03_times: function 31 -/
def sprocketref03_times.f (a0 : Int) (a1 : Int) : Option (Int) := some (IntKind.u64.wrap (a0 * a1))
set_option maxHeartbeats 8000000 in
set_option maxRecDepth 100000 in
theorem sprocketref03_times.calls (a0 : Int) (a1 : Int) (r : Int) (w : World) (h : sprocketref03_times.f a0 a1 = some r) :
    Calls Try.prog 31 #[.int .u64 a0, .int .u64 a1] w fun e w' => e = .returned (.int .u64 r) ∧ Drawn0 w w' := by
  have H : (some (IntKind.u64.wrap (a0 * a1))) = some r := h
  clear h
  obtain rfl := Option.some.inj H
  go_enter Try.func31, Try.ntmps31
  go_wp2
  go_ret
  exact ⟨by first | rfl | (simp; done) | (simp [*]; done), by repeat (first | exact Drawn0.refl _ | apply Drawn0.step)⟩

/-! ### sprocketref03_xor: function 32 -/
def sprocketref03_xor.f (a0 : Int) (a1 : Int) : Option (Int) := some (IntKind.u64.wrap ((Go.bits .or .u64 a0 a1) - (Go.bits .and .u64 a0 a1)))
set_option maxHeartbeats 8000000 in
set_option maxRecDepth 100000 in
theorem sprocketref03_xor.calls (a0 : Int) (a1 : Int) (r : Int) (w : World) (h : sprocketref03_xor.f a0 a1 = some r) :
    Calls Try.prog 32 #[.int .u64 a0, .int .u64 a1] w fun e w' => e = .returned (.int .u64 r) ∧ Drawn0 w w' := by
  have H : (some (IntKind.u64.wrap ((Go.bits .or .u64 a0 a1) - (Go.bits .and .u64 a0 a1)))) = some r := h
  clear h
  obtain rfl := Option.some.inj H
  go_enter Try.func32, Try.ntmps32
  go_wp2
  go_ret
  exact ⟨by first | rfl | (simp; done) | (simp [*]; done), by repeat (first | exact Drawn0.refl _ | apply Drawn0.step)⟩

/-! ### sprocketref03_Hash: function 10 -/
def sprocketref03_Hash.l0 : Nat → ByteArray → Int → Int → Option (Int)
  | 0, _, _, _ => none
  | k + 1, x1, x5, x6 => if x6 < (x1.size : Int) then (if 0 ≤ x6 then ((sprocketref03_xor.f x5 (IntKind.u64.wrap (bt x1 x6))).bind fun t108 => ((sprocketref03_times.f t108 1099511628211).bind fun t109 => (sprocketref03_Hash.l0 k x1 t109 (wrap64 (x6 + 1))))) else (none)) else ((sprocketref03_xor.f x5 (IntKind.u64.wrap (Int.tdiv x5 4294967296))).bind fun t110 => ((sprocketref03_times.f t110 11400714819323198485).bind fun t111 => ((sprocketref03_xor.f t111 (IntKind.u64.wrap (Int.tdiv t111 536870912))).bind fun t112 => (some t112))))
def sprocketref03_Hash.f (k : Nat) (a0 : Int) (a1 : ByteArray) : Option (Int) := sprocketref03_Hash.l0 k a1 a0 0
theorem sprocketref03_Hash.mono_l : ∀ k, (∀ y0 y1 y2, LeO (sprocketref03_Hash.l0 k y0 y1 y2) (sprocketref03_Hash.l0 (k + 1) y0 y1 y2))
  | 0 => fun _ _ _ r h => by simp [sprocketref03_Hash.l0] at h
  | k + 1 => by
    have ih0 := sprocketref03_Hash.mono_l k
    · intro y0 y1 y2
      unfold sprocketref03_Hash.l0
      repeat' first
      | (with_reducible exact ih0 _ _ _)
      | (with_reducible exact LeO.refl _)
      | (with_reducible exact LeO.none _)
      | (with_reducible refine LeO.ite ?_ ?_)
      | (with_reducible refine LeO.bind ?_ (fun _ => ?_))
      | exact ih0 _ _ _
      | exact LeO.none _
      | refine LeO.ite ?_ ?_
      | refine LeO.bind ?_ (fun _ => ?_)
theorem sprocketref03_Hash.mono : ∀ a0 a1 k, LeO (sprocketref03_Hash.f k a0 a1) (sprocketref03_Hash.f (k + 1) a0 a1) := by
  intro a0 a1 k
  have ih0 := sprocketref03_Hash.mono_l k
  unfold sprocketref03_Hash.f
  repeat' first
      | (with_reducible exact ih0 _ _ _)
      | (with_reducible exact LeO.refl _)
      | (with_reducible exact LeO.none _)
      | (with_reducible refine LeO.ite ?_ ?_)
      | (with_reducible refine LeO.bind ?_ (fun _ => ?_))
      | exact ih0 _ _ _
      | exact LeO.none _
      | refine LeO.ite ?_ ?_
      | refine LeO.bind ?_ (fun _ => ?_)
set_option maxHeartbeats 8000000 in
set_option maxRecDepth 100000 in
theorem sprocketref03_Hash.calls (k : Nat) (a0 : Int) (a1 : ByteArray) (r : Int) (w : World) (h : sprocketref03_Hash.f k a0 a1 = some r) :
    Calls Try.prog 10 #[.int .u64 a0, .string a1] w fun e w' => e = .returned (.int .u64 r) ∧ Drawn0 w w' := by
  have H : (sprocketref03_Hash.l0 k a1 a0 0) = some r := h
  clear h
  have H' := Aside0.mk H
  clear H
  go_enter Try.func10, Try.ntmps10
  go_wp2
  go_loopg [5, 6] k (fun kq v5 v6 w' => ∃ (x5_1 : Int) (x6_1 : Int), v5 = .int .u64 x5_1 ∧ v6 = .int .i64 x6_1 ∧ Aside0 (sprocketref03_Hash.l0 kq a1 x5_1 x6_1 = some r) ∧ Aside0 (kq ≤ k) ∧ Drawn0 w w')
  case atStart => exact ⟨(a0), (0), (by first | rfl | (simp; done) | (simp [*]; done)), (by first | rfl | (simp; done) | (simp [*]; done)), H', ⟨Nat.le_refl _⟩, by repeat (first | exact Drawn0.refl _ | apply Drawn0.step)⟩
  case round =>
    clear H'
    try clear c1
    try clear p2
    obtain ⟨x5_1, x6_1, rfl, rfl, HA, HK1, ⟨m1, rfl⟩⟩ := hrel
    cases gk with
    | zero => exact absurd HA.out (by simp [sprocketref03_Hash.l0])
    | succ k1 =>
      have H := HA.out
      clear HA
      simp only [sprocketref03_Hash.l0] at H
      by_cases c3 : x6_1 < (a1.size : Int)
      · rw [if_pos c3] at H
        have c3b0 : decide (x6_1 < (a1.size : Int)) = true := decide_eq_true c3
        clear c3
        by_cases c4 : 0 ≤ x6_1
        · rw [if_pos c4] at H
          have c4b0 : decide (0 ≤ x6_1) = true := decide_eq_true c4
          clear c4
          replace H := Option.bind_eq_some_iff.mp H
          obtain ⟨t108, A60, H⟩ := H
          replace H : ((sprocketref03_times.f t108 1099511628211).bind fun t109 => (sprocketref03_Hash.l0 k1 a1 t109 (wrap64 (x6_1 + 1)))) = some r := H
          have A6 := Aside0.mk A60
          clear A60
          replace H := Option.bind_eq_some_iff.mp H
          obtain ⟨t109, A70, H⟩ := H
          replace H : (sprocketref03_Hash.l0 k1 a1 t109 (wrap64 (x6_1 + 1))) = some r := H
          have A7 := Aside0.mk A70
          clear A70
          have H' := Aside0.mk H
          clear H
          have p5 : 0 ≤ (x6_1 : Int) := of_decide_eq_true (by first | (with_reducible assumption) | assumption)
          have q5 : x6_1 < (a1.size : Int) := of_decide_eq_true (by first | (with_reducible assumption) | assumption)
          have hx5 := bt_at a1 x6_1
          replace p5 := eq_true p5
          replace q5 := eq_true q5
          go_wp2_with (first | ((with_reducible refine gate_callee (f := 32) rfl ?_); refine goesL_ (some 19) rfl rfl Try.func32 (by kernel_rfl) rfl #[.int .u64 x5_1, .int .u64 (IntKind.u64.wrap (bt a1 x6_1))] rfl (by (try simp only [List.map_toArray, List.map_cons, List.map_nil]); first | done | rfl | (simp only [List.length_drop, List.length_take]; rfl)) ?_; (with_reducible refine (sprocketref03_xor.calls x5_1 (IntKind.u64.wrap (bt a1 x6_1)) t108 _ A6.out).mono ?_); rintro e w' ⟨rfl, ⟨nd, rfl⟩⟩; refine ⟨_, rfl, ?_⟩) | ((with_reducible refine gate_callee (f := 31) rfl ?_); refine goesL_ (some 20) rfl rfl Try.func31 (by kernel_rfl) rfl #[.int .u64 t108, .int .u64 1099511628211] rfl (by (try simp only [List.map_toArray, List.map_cons, List.map_nil]); first | done | rfl | (simp only [List.length_drop, List.length_take]; rfl)) ?_; (with_reducible refine (sprocketref03_times.calls t108 1099511628211 t109 _ A7.out).mono ?_); rintro e w' ⟨rfl, ⟨nd, rfl⟩⟩; refine ⟨_, rfl, ?_⟩))
          go_roundg k1
          case measure => have := HK1.out; omega
          case rel => exact ⟨(t109), (wrap64 (x6_1 + 1)), (by first | rfl | (simp; done) | (simp [*]; done)), (by first | rfl | (simp; done) | (simp [*]; done)), H', ⟨by have := HK1.out; omega⟩, by repeat (first | exact Drawn0.refl _ | apply Drawn0.step)⟩
        · rw [if_neg c4] at H
          exact absurd H (by simp)
      · rw [if_neg c3] at H
        have c3b0 : decide (x6_1 < (a1.size : Int)) = false := decide_eq_false c3
        clear c3
        replace H := Option.bind_eq_some_iff.mp H
        obtain ⟨t110, A80, H⟩ := H
        replace H : ((sprocketref03_times.f t110 11400714819323198485).bind fun t111 => ((sprocketref03_xor.f t111 (IntKind.u64.wrap (Int.tdiv t111 536870912))).bind fun t112 => (some t112))) = some r := H
        have A8 := Aside0.mk A80
        clear A80
        replace H := Option.bind_eq_some_iff.mp H
        obtain ⟨t111, A90, H⟩ := H
        replace H : ((sprocketref03_xor.f t111 (IntKind.u64.wrap (Int.tdiv t111 536870912))).bind fun t112 => (some t112)) = some r := H
        have A9 := Aside0.mk A90
        clear A90
        replace H := Option.bind_eq_some_iff.mp H
        obtain ⟨t112, A100, H⟩ := H
        replace H : (some t112) = some r := H
        have A10 := Aside0.mk A100
        clear A100
        obtain rfl := Option.some.inj H
        go_wp2_with (first | ((with_reducible refine gate_callee (f := 32) rfl ?_); refine goesL_ (some 24) rfl rfl Try.func32 (by kernel_rfl) rfl #[.int .u64 x5_1, .int .u64 (IntKind.u64.wrap (Int.tdiv x5_1 4294967296))] rfl (by (try simp only [List.map_toArray, List.map_cons, List.map_nil]); first | done | rfl | (simp only [List.length_drop, List.length_take]; rfl)) ?_; (with_reducible refine (sprocketref03_xor.calls x5_1 (IntKind.u64.wrap (Int.tdiv x5_1 4294967296)) t110 _ A8.out).mono ?_); rintro e w' ⟨rfl, ⟨nd, rfl⟩⟩; refine ⟨_, rfl, ?_⟩) | ((with_reducible refine gate_callee (f := 31) rfl ?_); refine goesL_ (some 26) rfl rfl Try.func31 (by kernel_rfl) rfl #[.int .u64 t110, .int .u64 11400714819323198485] rfl (by (try simp only [List.map_toArray, List.map_cons, List.map_nil]); first | done | rfl | (simp only [List.length_drop, List.length_take]; rfl)) ?_; (with_reducible refine (sprocketref03_times.calls t110 11400714819323198485 t111 _ A9.out).mono ?_); rintro e w' ⟨rfl, ⟨nd, rfl⟩⟩; refine ⟨_, rfl, ?_⟩) | ((with_reducible refine gate_callee (f := 32) rfl ?_); refine goesL_ (some 30) rfl rfl Try.func32 (by kernel_rfl) rfl #[.int .u64 t111, .int .u64 (IntKind.u64.wrap (Int.tdiv t111 536870912))] rfl (by (try simp only [List.map_toArray, List.map_cons, List.map_nil]); first | done | rfl | (simp only [List.length_drop, List.length_take]; rfl)) ?_; (with_reducible refine (sprocketref03_xor.calls t111 (IntKind.u64.wrap (Int.tdiv t111 536870912)) t112 _ A10.out).mono ?_); rintro e w' ⟨rfl, ⟨nd, rfl⟩⟩; refine ⟨_, rfl, ?_⟩))
        go_ret
        exact ⟨by first | rfl | (simp; done) | (simp [*]; done), by repeat (first | exact Drawn0.refl _ | apply Drawn0.step)⟩

/-! ### sprocketref03_Start: function 12 -/
def sprocketref03_Start.f (a0 : Int) : Option (Int) := some (IntKind.u64.wrap (Int.tdiv a0 128))
set_option maxHeartbeats 8000000 in
set_option maxRecDepth 100000 in
theorem sprocketref03_Start.calls (a0 : Int) (r : Int) (w : World) (h : sprocketref03_Start.f a0 = some r) :
    Calls Try.prog 12 #[.int .u64 a0] w fun e w' => e = .returned (.int .u64 r) ∧ Drawn0 w w' := by
  have H : (some (IntKind.u64.wrap (Int.tdiv a0 128))) = some r := h
  clear h
  obtain rfl := Option.some.inj H
  go_enter Try.func12, Try.ntmps12
  go_wp2
  go_ret
  exact ⟨by first | rfl | (simp; done) | (simp [*]; done), by repeat (first | exact Drawn0.refl _ | apply Drawn0.step)⟩

/-! ### sprocketref03_Claim: function 14 -/
def sprocketref03_Claim.f (a0 : Int) : Option (Int) := some (wrap64 (128 + (wrap64 (Int.tmod a0 128))))
set_option maxHeartbeats 8000000 in
set_option maxRecDepth 100000 in
theorem sprocketref03_Claim.calls (a0 : Int) (r : Int) (w : World) (h : sprocketref03_Claim.f a0 = some r) :
    Calls Try.prog 14 #[.int .u64 a0] w fun e w' => e = .returned (.int .i64 r) ∧ Drawn0 w w' := by
  have H : (some (wrap64 (128 + (wrap64 (Int.tmod a0 128))))) = some r := h
  clear h
  obtain rfl := Option.some.inj H
  go_enter Try.func14, Try.ntmps14
  go_wp2
  go_ret
  exact ⟨by first | rfl | (simp; done) | (simp [*]; done), by repeat (first | exact Drawn0.refl _ | apply Drawn0.step)⟩

end Go.Proofs.Ytaodaonbkfgoeaa.PMixTells
