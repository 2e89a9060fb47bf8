/- The walks of the three statements on the hash. -/
import Derived.Test.YtaodaonbkfgoeaaMixC
import Derived.Outline
import Derived.Deep.QuietTactic
import Derived.BigQuiet
namespace Go.Proofs.Ytaodaonbkfgoeaa.MixD
open Go.RowKit Go.Proofs.YtaodaonbkfgoeaaW.PrintWords Go.Proofs.Ytaodaonbkfgoeaa.MixA Go.Proofs.Ytaodaonbkfgoeaa.MixB Go.Proofs.Ytaodaonbkfgoeaa.MixC Go.Proofs.Ytaodaonbkfgoeaa.PMixTells
open Go.Proofs.YtaodaonbkfgoeaaW.PrintLast Go.Proofs.YtaodaonbkfgoeaaW.PrintMore

theorem c_awake (w : World) : Calls Try.prog 8 #[] w fun e w' => e = .returned (.bool true) ∧ Drawn0 w w' := sprocketlaw03_awake.calls 1 true w (awake 1 (by decide))
theorem c_hash (h : BitVec 64) (s : ByteArray) (hs : s.size ≤ 140737488351232) (w : World) : Calls Try.prog 9 #[.int .u64 (I h), .string s] w fun e w' => e = .returned (.int .u64 (I (hashB h s.data.toList))) ∧ Drawn0 w w' :=
  mix_Hash.calls (s.size + 1) _ _ _ w (Hash _ s hs (by omega) h)
theorem c_hashR (h : BitVec 64) (s : ByteArray) (hs : s.size ≤ 140737488351232) (w : World) : Calls Try.prog 10 #[.int .u64 (I h), .string s] w fun e w' => e = .returned (.int .u64 (I (hashB h s.data.toList))) ∧ Drawn0 w w' :=
  sprocketref03_Hash.calls (s.size + 1) _ _ _ w (HashR _ s hs (by omega) h)
theorem c_start (h : BitVec 64) (w : World) : Calls Try.prog 11 #[.int .u64 (I h)] w fun e w' => e = .returned (.int .u64 (I h / 128)) ∧ Drawn0 w w' :=
  mix_Start.calls _ _ w rfl
theorem c_startR (h : BitVec 64) (w : World) : Calls Try.prog 12 #[.int .u64 (I h)] w fun e w' => e = .returned (.int .u64 (I h / 128)) ∧ Drawn0 w w' :=
  sprocketref03_Start.calls _ _ w (by rw [StartR]; rfl)
theorem c_claim (h : BitVec 64) (w : World) : Calls Try.prog 13 #[.int .u64 (I h)] w fun e w' => e = .returned (.int .i64 (128 + I h % 128)) ∧ Drawn0 w w' :=
  mix_Claim.calls _ _ w (MixB.Claim h)
theorem c_claimR (h : BitVec 64) (w : World) : Calls Try.prog 14 #[.int .u64 (I h)] w fun e w' => e = .returned (.int .i64 (128 + I h % 128)) ∧ Drawn0 w w' :=
  sprocketref03_Claim.calls _ _ w (ClaimR h)
def whole (a c : Int) : Int := if a < 144115188075855872 ∧ 128 ≤ c ∧ c ≤ 255 then a * 128 + (c - 128) else 0
theorem c_whole (a c : Int) (h : 0 ≤ a) (h' : a < 18446744073709551616) (hc : -9223372036854775808 ≤ c) (hc' : c < 9223372036854775808) (w : World) : Calls Try.prog 15 #[.int .u64 a, .int .i64 c] w fun e w' => e = .returned (.int .u64 (whole a c)) ∧ Drawn0 w w' :=
  mix_Whole.calls _ _ _ w (Whole_is a c h h' hc hc')
theorem c_wholeR (a c : Int) (h : 0 ≤ a) (h' : a < 18446744073709551616) (w : World) : Calls Try.prog 16 #[.int .u64 a, .int .i64 c] w fun e w' => e = .returned (.int .u64 (whole a c)) ∧ Drawn0 w w' :=
  sprocketref03_Whole.calls _ _ _ w (WholeR_is a c h h')
theorem whole_parts (h : BitVec 64) : whole (I h / 128) (128 + I h % 128) = I h := by
  have := I_nonneg h
  have := I_lt h
  unfold whole
  rw [if_pos (by omega)]
  omega
theorem qt {P : Program} {f : FuncId} {args : Array Value} {w : World} {n : Nat} {v : Value} (h : Calls P f args (w.drewN n) fun e w' => e = .returned v ∧ Drawn0 (w.drewN n) w') :
    Calls P f args (w.drewN n) fun e w'' => e = .returned v ∧ ∃ m, w'' = w.drewN m := Calls.quiet_of (h.mono fun _ _ ⟨a, b⟩ => ⟨a, b.out⟩)
set_option maxHeartbeats 4000000 in
set_option maxRecDepth 100000 in
theorem tells_short (h : BitVec 64) (s : ByteArray) (c : Int) (w : World) (hs : s.size ≤ 2000) (hc : -9223372036854775808 ≤ c) (hc' : c < 9223372036854775808) :
    Calls Try.prog 3 #[.int .u64 (I h), .string s, .int .i64 c] w fun e w' => e = .returned (.bool true) ∧ Drawn0 w w' := by
  have c4b0 : decide (2000 < (s.size : Int)) = false := decide_eq_false (by omega)
  have c4b1 : decide (2000 < s.size) = false := decide_eq_false (by omega)
  have hs' : s.size ≤ 140737488351232 := by omega
  go_enter Try.func3, Try.ntmps3
  have b0 := I_nonneg h
  have b1 := I_lt h
  have b2 := I_nonneg (hashB h s.data.toList)
  have b3 := I_lt (hashB h s.data.toList)
  have e1 := whole_parts (hashB h s.data.toList)
  go_wp2_with (first
    | (go_at_call 9; (with_reducible refine (c_hash h s hs' _).mono ?_); rintro e w' ⟨rfl, ⟨nd, rfl⟩⟩)
    | (go_at_call 10; (with_reducible refine (c_hashR h s hs' _).mono ?_); rintro e w' ⟨rfl, ⟨nd, rfl⟩⟩)
    | (go_at_call 11; (with_reducible refine (c_start _ _).mono ?_); rintro e w' ⟨rfl, ⟨nd, rfl⟩⟩)
    | (go_at_call 12; (with_reducible refine (c_startR _ _).mono ?_); rintro e w' ⟨rfl, ⟨nd, rfl⟩⟩)
    | (go_at_call 13; (with_reducible refine (c_claim _ _).mono ?_); rintro e w' ⟨rfl, ⟨nd, rfl⟩⟩)
    | (go_at_call 14; (with_reducible refine (c_claimR _ _).mono ?_); rintro e w' ⟨rfl, ⟨nd, rfl⟩⟩)
    | (go_at_call 15; (with_reducible refine (c_whole _ _ (by omega) (by omega) (by omega) (by omega) _).mono ?_); rintro e w' ⟨rfl, ⟨nd, rfl⟩⟩)
    | (go_at_call 16; (with_reducible refine (c_wholeR _ _ (by omega) (by omega) _).mono ?_); rintro e w' ⟨rfl, ⟨nd, rfl⟩⟩)
    | (go_at_call 8; (with_reducible refine (c_awake _).mono ?_); rintro e w' ⟨rfl, ⟨nd, rfl⟩⟩))
  go_ret
  exact ⟨rfl, by repeat (first | exact Drawn0.refl _ | apply Drawn0.step)⟩
set_option maxHeartbeats 4000000 in
set_option maxRecDepth 100000 in
theorem tells_long (h c : Int) (s : ByteArray) (w : World) (hs : 2000 < s.size) (hs' : s.size ≤ 140737488351232) :
    Calls Try.prog 3 #[.int .u64 h, .string s, .int .i64 c] w fun e w' => e = .returned (.bool true) ∧ Drawn0 w w' := by
  have c4b0 : decide (2000 < (s.size : Int)) = true := decide_eq_true (by omega)
  have c4b1 : decide (2000 < s.size) = true := decide_eq_true (by omega)
  go_enter Try.func3, Try.ntmps3
  go_wp2_with (go_at_call 8; (with_reducible refine (c_awake _).mono ?_); rintro e w' ⟨rfl, ⟨nd, rfl⟩⟩)
  go_ret
  exact ⟨rfl, by repeat (first | exact Drawn0.refl _ | apply Drawn0.step)⟩
theorem tells (a0 : Int) (s : ByteArray) (c : Int) (w : World) (w0 : (Lit.int .u64 a0).wf = true) (hs : s.size ≤ 140737488351232) (w2 : (Lit.int .i64 c).wf = true) :
    Calls Try.prog 3 #[.int .u64 a0, .string s, .int .i64 c] w fun e w' => e = .returned (.bool true) ∧ Drawn0 w w' := by
  have h0 : 0 ≤ a0 ∧ a0 < 18446744073709551616 := by simp [Lit.wf, IntKind.min, IntKind.max, IntKind.signed, IntKind.bits] at w0; omega
  have h2 : -9223372036854775808 ≤ c ∧ c < 9223372036854775808 := by simp [Lit.wf, IntKind.min, IntKind.max, IntKind.signed, IntKind.bits] at w2; omega
  by_cases hl : 2000 < s.size
  · exact tells_long a0 c s w hl hs
  · obtain ⟨h, rfl⟩ := I_of h0.1 h0.2
    exact tells_short h s c w (by omega) h2.1 h2.2

set_option maxHeartbeats 4000000 in
set_option maxRecDepth 100000 in
theorem seeds_long (a b : Int) (s : ByteArray) (w : World) (hs : 2000 < s.size) (hs' : s.size ≤ 140737488351232) :
    Calls Try.prog 4 #[.int .u64 a, .int .u64 b, .string s] w fun e w' => e = .returned (.bool true) ∧ Drawn0 w w' := by
  have c4b0 : decide (2000 < (s.size : Int)) = true := decide_eq_true (by omega)
  have c4b1 : decide (2000 < s.size) = true := decide_eq_true (by omega)
  go_enter Try.func4, Try.ntmps4
  go_wp2_with (go_at_call 8; (with_reducible refine (c_awake _).mono ?_); rintro e w' ⟨rfl, ⟨nd, rfl⟩⟩)
  go_ret
  exact ⟨rfl, by repeat (first | exact Drawn0.refl _ | apply Drawn0.step)⟩
set_option maxHeartbeats 4000000 in
set_option maxRecDepth 100000 in
theorem seeds_short (a b : BitVec 64) (s : ByteArray) (w : World) (hs : s.size ≤ 2000) :
    Calls Try.prog 4 #[.int .u64 (I a), .int .u64 (I b), .string s] w fun e w' => e = .returned (.bool true) ∧ Drawn0 w w' := by
  have c4b0 : decide (2000 < (s.size : Int)) = false := decide_eq_false (by omega)
  have c4b1 : decide (2000 < s.size) = false := decide_eq_false (by omega)
  have hs' : s.size ≤ 140737488351232 := by omega
  have key : ((I (hashB a s.data.toList) == I (hashB b s.data.toList)) == (I a == I b)) = true := by
    rw [beq_iff_eq, Bool.eq_iff_iff, beq_iff_eq, beq_iff_eq, I_inj, I_inj]
    exact hash_seeds a b _
  go_enter Try.func4, Try.ntmps4
  go_wp2_with (first
    | (go_at_call 9; (with_reducible refine (c_hash a s hs' _).mono ?_); rintro e w' ⟨rfl, ⟨nd, rfl⟩⟩)
    | (go_at_call 9; (with_reducible refine (c_hash b s hs' _).mono ?_); rintro e w' ⟨rfl, ⟨nd, rfl⟩⟩)
    | (go_at_call 8; (with_reducible refine (c_awake _).mono ?_); rintro e w' ⟨rfl, ⟨nd, rfl⟩⟩))
  go_ret
  exact ⟨rfl, by repeat (first | exact Drawn0.refl _ | apply Drawn0.step)⟩
theorem seeds (a0 b0 : Int) (s : ByteArray) (w : World) (w0 : (Lit.int .u64 a0).wf = true) (w1 : (Lit.int .u64 b0).wf = true) (hs : s.size ≤ 140737488351232) :
    Calls Try.prog 4 #[.int .u64 a0, .int .u64 b0, .string s] w fun e w' => e = .returned (.bool true) ∧ Drawn0 w w' := by
  have h0 : 0 ≤ a0 ∧ a0 < 18446744073709551616 := by simp [Lit.wf, IntKind.min, IntKind.max, IntKind.signed, IntKind.bits] at w0; omega
  have h1 : 0 ≤ b0 ∧ b0 < 18446744073709551616 := by simp [Lit.wf, IntKind.min, IntKind.max, IntKind.signed, IntKind.bits] at w1; omega
  by_cases hl : 2000 < s.size
  · exact seeds_long a0 b0 s w hl hs
  · obtain ⟨a, rfl⟩ := I_of h0.1 h0.2
    obtain ⟨b, rfl⟩ := I_of h1.1 h1.2
    exact seeds_short a b s w (by omega)
theorem tells_walk (a0 : Int) (s : ByteArray) (c : Int) (w : World) (w0 : (Lit.int .u64 a0).wf = true) (hs : s.size ≤ 140737488351232) (w2 : (Lit.int .i64 c).wf = true) :
    Calls Try.prog 3 #[.int .u64 a0, .string s, .int .i64 c] w fun e w' => e = .returned (.bool true) ∧ Below w.heap.size w w' :=
  (tells a0 s c w w0 hs w2).mono fun _ _ ⟨a, b⟩ => ⟨a, b.below⟩
theorem seeds_walk (a0 b0 : Int) (s : ByteArray) (w : World) (w0 : (Lit.int .u64 a0).wf = true) (w1 : (Lit.int .u64 b0).wf = true) (hs : s.size ≤ 140737488351232) :
    Calls Try.prog 4 #[.int .u64 a0, .int .u64 b0, .string s] w fun e w' => e = .returned (.bool true) ∧ Below w.heap.size w w' :=
  (seeds a0 b0 s w w0 w1 hs).mono fun _ _ ⟨a, b⟩ => ⟨a, b.below⟩
end Go.Proofs.Ytaodaonbkfgoeaa.MixD
