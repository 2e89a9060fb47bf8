/- An argument of type [2]byte, opened into its two bytes and shut again; the whole walk of MixBytes. -/
import Derived.Test.YtaodaonbkfgoeaaMixF
import Derived.WideKeyArr2
import Derived.ChangeSame
namespace Go.Proofs.Ytaodaonbkfgoeaa.MixG
open Go.ChangeShapes Go.WideShapes Go.RowKit
theorem arr30 : WideMaps.ArrKey Try.prog 30 5 2 := ⟨by kernel_rfl, by kernel_rfl, by kernel_rfl, by kernel_rfl⟩
theorem array2 {α : Type} {cs : Array α} (h : cs.size = 2) : ∃ c0 c1, cs = #[c0, c1] := by
  obtain ⟨l⟩ := cs
  match l, h with
  | [c0, c1], _ => exact ⟨c0, c1, rfl⟩
section
variable {H : Type} {enc : TypeId × Value → H} {W : World} {base : Nat} {sp : Nat → Bool} {held : Bool}
theorem u8_of {a : Int} (h : (Lit.int .u8 a).wf = true) : ∃ x : UInt8, a = (x.toNat : Int) := by
  have h0 : 0 ≤ a ∧ a < 256 := by simp [Lit.wf, IntKind.min, IntKind.max, IntKind.signed, IntKind.bits] at h; omega
  refine ⟨UInt8.ofNat a.toNat, ?_⟩
  rw [UInt8.toNat_ofNat_of_lt' (by omega : a.toNat < 256)]
  omega
theorem open_two {r : Reach} {b0 : Nat} {v : Value} {d : DataW H} {ps : List MemPlace} (hv : Value.okWide Try.prog W r b0 30 v) (hd : DataW.Trod enc Try.prog W base sp held 30 v d ps) :
    ∃ a b : UInt8, v = .agg #[.int .u8 a.toNat, .int .u8 b.toNat] ∧ d = .agg [.lit (.int .u8 a.toNat), .lit (.int .u8 b.toNat)] ∧ ps = [] := by
  obtain ⟨xs, rfl, hn⟩ := WideMaps.okWide_arr arr30 hv
  obtain ⟨x0, x1, rfl⟩ := array2 hn
  obtain ⟨fuel, hf⟩ := hd
  cases fuel with
  | zero => simp [DataW.trod] at hf
  | succ m =>
    rw [DataW.trod_step] at hf
    unfold DataW.trodStep at hf
    simp only [arr30.hu, Value.cells] at hf
    rw [if_pos (by rw [arr30.size]; rfl)] at hf
    simp only [Option.map_eq_some_iff, arr30.one] at hf
    obtain ⟨ys, hy, e1⟩ := hf
    have hr : List.range 2 = [0, 1] := rfl
    rw [hr] at hy
    simp only [List.mapM_cons, List.mapM_nil, bind, Option.bind_eq_some_iff, pure, Option.some.injEq] at hy
    obtain ⟨y0, h0, ys0, ⟨y1, h1, ys1, rfl, rfl⟩, rfl⟩ := hy
    obtain ⟨a, ea, rfl, wa⟩ := DataW.trod_int Try.underlying5 h0
    obtain ⟨b, eb, rfl, wb⟩ := DataW.trod_int Try.underlying5 h1
    simp at ea eb
    obtain ⟨a, rfl⟩ := u8_of wa
    obtain ⟨b, rfl⟩ := u8_of wb
    simp only [Prod.mk.injEq] at e1
    exact ⟨a, b, by rw [ea, eb], by rw [← e1.1]; rfl, by rw [← e1.2]; rfl⟩
theorem wf_u8 (a : UInt8) : (Lit.int .u8 (a.toNat : Int)).wf = true := by
  have := a.toNat_lt
  simp [Lit.wf, IntKind.min, IntKind.max, IntKind.signed, IntKind.bits]; omega
theorem shut_two (a b : UInt8) : DataW.Trod enc Try.prog W base sp held 30 (.agg #[.int .u8 a.toNat, .int .u8 b.toNat]) (.agg [.lit (.int .u8 a.toNat), .lit (.int .u8 b.toNat)]) [] := by
  refine ⟨2, ?_⟩
  rw [DataW.trod_step]
  unfold DataW.trodStep
  simp only [arr30.hu, Value.cells]
  rw [if_pos (by rw [arr30.size]; rfl)]
  have hr : List.range 2 = [0, 1] := rfl
  have h0 := trod_int_mk (enc := enc) (w := W) (base := base) (spare := sp) (held := held) 0 Try.underlying5 (wf_u8 a)
  have h1 := trod_int_mk (enc := enc) (w := W) (base := base) (spare := sp) (held := held) 0 Try.underlying5 (wf_u8 b)
  simp [hr, arr30.one, h0, h1]
end
open Go.Proofs.YtaodaonbkfgoeaaW.PrintWords Go.Proofs.Ytaodaonbkfgoeaa.MixA Go.Proofs.Ytaodaonbkfgoeaa.MixD Go.Proofs.YtaodaonbkfgoeaaW.PrintLast Go.Proofs.YtaodaonbkfgoeaaW.PrintMore
set_option maxHeartbeats 4000000 in
set_option maxRecDepth 100000 in
theorem bytes_long (h : Int) (s : ByteArray) (a b : UInt8) (w : World) (hs : 2000 < s.size) (hs' : s.size ≤ 140737488351232) :
    Calls Try.prog 5 #[.int .u64 h, .string s, .agg #[.int .u8 a.toNat, .int .u8 b.toNat]] w fun e w' => e = .returned (.bool true) ∧ Below w.heap.size w w' := by
  have c4b0 : decide (2000 < (s.size : Int)) = true := decide_eq_true (by omega)
  have c4b1 : decide (2000 < s.size) = true := decide_eq_true (by omega)
  go_enter Try.func5, Try.ntmps5
  go_wp2_with (go_at_call 8; (with_reducible refine (c_awake _).mono ?_); rintro e w' ⟨rfl, ⟨nd, rfl⟩⟩)
  go_ret
  refine ⟨rfl, ?_⟩
  exact ((Below.refl _ _).alloc (Nat.le_refl _) _).trans ((Drawn0.mk ⟨nd, rfl⟩).below.mono (by simp))
theorem bytes_walk (a0 : Int) (s : ByteArray) (a b : UInt8) (w : World) (w0 : (Lit.int .u64 a0).wf = true) (hs : s.size ≤ 140737488351232) :
    Calls Try.prog 5 #[.int .u64 a0, .string s, .agg #[.int .u8 a.toNat, .int .u8 b.toNat]] w fun e w' => e = .returned (.bool true) ∧ Below w.heap.size w w' := by
  have h0 : 0 ≤ a0 ∧ a0 < 18446744073709551616 := by simp [Lit.wf, IntKind.min, IntKind.max, IntKind.signed, IntKind.bits] at w0; omega
  by_cases hl : 2000 < s.size
  · exact bytes_long a0 s a b w hl hs
  · obtain ⟨h, rfl⟩ := I_of h0.1 h0.2
    exact MixF.bytes_short h s a b w (by omega)
end Go.Proofs.Ytaodaonbkfgoeaa.MixG
