/- The walks of the package digit, second part: plain at every text; Print, Show, Parse, Word. -/
import Derived.Test.YtdibkhddhgaghaaDoorDigitWalk
namespace Go.Proofs.YtdibkhddhgaghaaDoor.DgW
open Go.RowKit DgF
theorem empty_iff (s : ByteArray) : s.toList.isEmpty = decide (s.size = 0) := by
  rw [ByteArray.toList_eq]
  have := size_list s
  cases e : s.data.toList with
  | nil => rw [e] at this; simp at this; rw [decide_eq_true this.symm]; rfl
  | cons c r => rw [e] at this; simp at this; rw [decide_eq_false (by omega)]; rfl
theorem head_at (s : ByteArray) (h : 0 < s.size) : s.data.toList.head? = some s[0] := by
  have e := drop_at s 0 h
  rw [List.drop_zero] at e
  rw [e]; rfl
theorem plain_is (s : ByteArray) (m : Nat) : Dg.plain s.data.toList m = (decide (0 < s.size ∧ s.size ≤ m ∧ (∀ h : 0 < s.size, ¬ (s[0].toNat = 48 ∧ 1 < s.size))) && s.data.toList.all Dg.isD) := by
  unfold Dg.plain
  congr 1
  rw [decide_eq_decide, size_list]
  constructor
  · rintro ⟨h1, h2, h3⟩
    have h0 : 0 < s.size := by
      rcases Nat.eq_zero_or_pos s.size with e | e
      · exact absurd (List.length_eq_zero_iff.mp (by rw [size_list]; exact e)) h1
      · exact e
    refine ⟨h0, h2, fun h q => h3 ⟨?_, q.2⟩⟩
    rw [head_at s h]
    exact congrArg some (UInt8.toNat_inj.mp q.1)
  · rintro ⟨h1, h2, h3⟩
    refine ⟨fun e => ?_, h2, fun q => h3 h1 ⟨?_, q.2⟩⟩
    · have := size_list s; rw [e] at this; simp at this; omega
    · have := q.1
      rw [head_at s h1] at this
      have := Option.some.inj this
      rw [this]; rfl
set_option maxHeartbeats 1000000 in
set_option maxRecDepth 1000000 in
theorem plain_any (s : ByteArray) (m : Nat) (hm : m ≤ 1000) (hs : s.size ≤ 281474976710656) (w : World) :
    Calls Tryd.prog 115 #[.string s, .int .i64 m] w fun e w' => e = .returned (.bool (Dg.plain s.data.toList m)) ∧ w = w' := by
  have hp := plain_is s m
  by_cases h0 : 0 < s.size
  · have b0 : s.toList.isEmpty = false := by rw [empty_iff]; exact decide_eq_false (by omega)
    by_cases hl : s.size ≤ m
    · by_cases h1 : s[0].toNat = 48 ∧ 1 < s.size
      · have e : Dg.plain s.data.toList m = false := by rw [hp, decide_eq_false (fun q => q.2.2 h0 h1), Bool.false_and]
        rw [e]
        have b1 : decide ((m : Int) < (s.size : Int)) = false := decide_eq_false (by omega)
        have b1' : decide (m < s.size) = false := decide_eq_false (by omega)
        have b2 : ((s[0].toNat : Int) == 48) = true := by rw [beq_iff_eq]; omega
        have b3 : decide (1 < (s.size : Int)) = true := decide_eq_true (by omega)
        have hm' : (m : Int) ≤ 1000 := by omega
        clear e hp h1
        go_enter Tryd.func115, Tryd.ntmps115
        go_wp2
        go_step3
        go_wp2
        rw [Exit.noGoto_ret]
        go_ret
        exact ⟨rfl, rfl⟩
      · have e : Dg.plain s.data.toList m = s.data.toList.all Dg.isD := by rw [hp, decide_eq_true ⟨h0, hl, fun _ => h1⟩, Bool.true_and]
        rw [e]
        exact plain_loop s m hm h0 hl h1 w
    · have e : Dg.plain s.data.toList m = false := by rw [hp, decide_eq_false (fun q => hl q.2.1), Bool.false_and]
      rw [e]
      have b1 : decide ((m : Int) < (s.size : Int)) = true := decide_eq_true (by omega)
      have b1' : decide (m < s.size) = true := decide_eq_true (by omega)
      have hm' : (m : Int) ≤ 1000 := by omega
      clear e hp
      go_enter Tryd.func115, Tryd.ntmps115
      go_wp2
      go_step3
      go_wp2
      rw [Exit.noGoto_ret]
      go_ret
      exact ⟨rfl, rfl⟩
  · have e : Dg.plain s.data.toList m = false := by rw [hp, decide_eq_false (fun q => h0 q.1), Bool.false_and]
    rw [e]
    have b0 : s.toList.isEmpty = true := by rw [empty_iff]; exact decide_eq_true (by omega)
    have b0' : s.toList = [] := List.isEmpty_iff.mp b0
    have hm' : (m : Int) ≤ 1000 := by omega
    clear e hp
    go_enter Tryd.func115, Tryd.ntmps115
    go_wp2
    go_step3
    go_wp2
    rw [Exit.noGoto_ret]
    go_ret
    exact ⟨rfl, rfl⟩
set_option maxHeartbeats 1000000 in
set_option maxRecDepth 1000000 in
theorem print_any (n : Int) (h0 : -9223372036854775808 ≤ n) (h1 : n ≤ 9223372036854775807) (w : World) (htab : Pow w) :
    Calls Tryd.prog 47 #[.int .i64 n] w fun e w' => e = .returned (.string ⟨(Lib.itoa n).toArray⟩) ∧ Below w.heap.size w w' := by
  have hc := Tryd.strconv_Itoa n h0 h1 w htab
  have HC := Lib.hid hc
  clear hc
  go_enter Tryd.func47, Tryd.ntmps47
  go_wp2_with (go_at_call 86; refine HC.out.mono ?_; rintro e w' ⟨rfl, k, os, rfl⟩)
  go_ret
  exact ⟨rfl, below_grow w k os⟩
set_option maxHeartbeats 1000000 in
set_option maxRecDepth 1000000 in
theorem formatUint (u : Nat) (hu64 : u < 18446744073709551616) (w : World) (htab : Pow w) :
    Calls Tryd.prog 85 #[.int .u64 u, .int .i64 10] w fun e w' => e = .returned (.string ⟨(Lib.decDigits u).toArray⟩) ∧ Below w.heap.size w w' := by
  have HC := Lib.hid (formatUint_inner u hu64 w htab)
  clear htab
  go_enter Tryd.func85, Tryd.ntmps85
  go_wp2_with (go_at_call 117; refine HC.out.mono ?_; rintro e w' ⟨rfl, hb⟩)
  go_ret
  exact ⟨rfl, hb⟩
set_option maxHeartbeats 1000000 in
set_option maxRecDepth 1000000 in
theorem show_any (u : Nat) (hu64 : u < 18446744073709551616) (w : World) (htab : Pow w) :
    Calls Tryd.prog 46 #[.int .u64 u] w fun e w' => e = .returned (.string ⟨(Lib.decDigits u).toArray⟩) ∧ Below w.heap.size w w' := by
  have HC := Lib.hid (formatUint u hu64 w htab)
  clear htab
  go_enter Tryd.func46, Tryd.ntmps46
  go_wp2_with (go_at_call 85; refine HC.out.mono ?_; rintro e w' ⟨rfl, hb⟩)
  go_ret
  exact ⟨rfl, hb⟩
theorem below_bytes (w : World) (e : TypeId) (t : ByteArray) : Below w.heap.size w (Lib.bytesWorld w e t) :=
  ⟨rfl, rfl, rfl, by rw [Lib.bytesWorld_size]; omega, fun i hi => Lib.bytesWorld_at_old w e t i hi⟩
/-- what the package reads of strconv.ErrRange: an error, or nil -/
abbrev Rng (w : World) : Prop := ∃ ev, w.cell? ⟨8, 0, none⟩ = some ev ∧ (ev = .nilIface ∨ ∃ te pe, ev = .iface te pe)
set_option maxHeartbeats 1000000 in
set_option maxRecDepth 1000000 in
theorem word_any (s : ByteArray) (hs : s.size ≤ 281474976710656) (w : World) (hr : Rng w) :
    Calls Tryd.prog 83 #[.string s] w fun e w' => e = .returned (.tuple #[.int .u64 (Dg.word s.data.toList).1, .int .i64 (Dg.word s.data.toList).2]) ∧ Below w.heap.size w w' := by
  by_cases hp : Dg.plain s.data.toList 20 = true
  · by_cases hv : Dg.val 0 s.data.toList < 18446744073709551616
    · have e : Dg.word s.data.toList = (((Dg.val 0 s.data.toList : Nat) : Int), 0) := by unfold Dg.word; rw [if_pos hp, if_neg (by omega)]
      have hc := Tryd.strconv_ParseUint_10_at64_ok s (by omega) _ (Dg.uint_ok hp hv)
      have HP := Lib.hid (plain_any s 20 (by omega) hs)
      rw [hp] at HP
      rw [e]
      generalize Dg.val 0 s.data.toList = v at *
      have HC := Lib.hid hc
      clear e hc hp hr
      go_enter Tryd.func83, Tryd.ntmps83
      go_wp2_with fail
      refine (HP.out _).mono ?_
      rintro e w1 ⟨rfl, rfl⟩
      go_wp2_with fail
      refine (HC.out _).mono ?_
      rintro e w2 ⟨rfl, hw⟩
      have HW := Lib.hid hw
      clear hw
      go_wp2
      go_ret2
      refine ⟨rfl, ?_⟩
      rcases HW.out with h | h
      · rw [h]; exact Below.refl _ _
      · rw [h]; exact below_bytes _ _ _
    · have e : Dg.word s.data.toList = (0, 5) := by unfold Dg.word; rw [if_pos hp, if_pos (by omega)]
      obtain ⟨ev, hev1, hev2⟩ := hr
      have hc := Tryd.strconv_ParseUint_10_at64_range s hs (Dg.uint_range hp hv) ev w hev1 hev2
      have HP := Lib.hid (plain_any s 20 (by omega) hs)
      rw [hp] at HP
      rw [e]
      have HC := Lib.hid hc
      clear e hc hp hv hev1 hev2
      go_enter Tryd.func83, Tryd.ntmps83
      go_wp2_with fail
      refine (HP.out _).mono ?_
      rintro e w1 ⟨rfl, rfl⟩
      go_wp2_with fail
      refine HC.out.mono ?_
      rintro e w2 ⟨N, rfl, _, _, hb⟩
      have HB := Lib.hid hb
      clear hb
      go_wp2
      go_ret2
      exact ⟨rfl, HB.out⟩
  · have e : Dg.word s.data.toList = (0, 3) := by unfold Dg.word; rw [if_neg hp]
    have HP := Lib.hid (plain_any s 20 (by omega) hs)
    rw [show Dg.plain s.data.toList 20 = false by simpa using hp] at HP
    rw [e]
    clear e hp hr
    go_enter Tryd.func83, Tryd.ntmps83
    go_wp2_with fail
    refine (HP.out _).mono ?_
    rintro e w1 ⟨rfl, rfl⟩
    go_wp2
    go_ret2
    exact ⟨rfl, Below.refl _ _⟩
end Go.Proofs.YtdibkhddhgaghaaDoor.DgW
