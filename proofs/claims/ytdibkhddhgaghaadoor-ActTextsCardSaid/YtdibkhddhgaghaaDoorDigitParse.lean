/- The walk of digit.Parse, for every text and every range. -/
import Derived.Test.YtdibkhddhgaghaaDoorDigitWalk2
namespace Go.Proofs.YtdibkhddhgaghaaDoor.DgW
open Go.RowKit DgF
theorem tail_at (s : ByteArray) : (s.extract 1 s.size).data.toList = s.data.toList.tail := by
  rw [ByteArray.data_extract, Array.toList_extract, ← size_list s]
  simp only [List.extract_eq_take_drop, List.drop_one]
  rw [List.take_of_length_le (by rw [List.length_tail, size_list]; omega)]
theorem neg_iff (s : ByteArray) : Dg.neg s.data.toList = true ↔ ∃ h : 0 < s.size, s[0].toNat = 45 := by
  unfold Dg.neg
  rw [decide_eq_true_iff]
  constructor
  · intro q
    have h0 : 0 < s.size := by
      rcases Nat.eq_zero_or_pos s.size with e | e
      · rw [List.length_eq_zero_iff.mp (by rw [size_list]; exact e : s.data.toList.length = 0)] at q; cases q
      · exact e
    refine ⟨h0, ?_⟩
    rw [head_at s h0] at q
    rw [Option.some.inj q]; rfl
  · rintro ⟨h, e⟩
    rw [head_at s h]
    exact congrArg some (UInt8.toNat_inj.mp e)
theorem dash0 (s : ByteArray) : (s.toList == [45, 48]) = decide (s.data.toList = [45, 48]) := by
  rw [ByteArray.toList_eq, Bool.eq_iff_iff, beq_iff_eq, decide_eq_true_iff]
/-- what is asked of the rest: its text, and what plain says of it -/
structure Rest (s r : ByteArray) (b : Bool) : Prop where
  list : r.data.toList = Dg.rest s.data.toList
  plain : ∀ w, Calls Tryd.prog 115 #[.string r, .int .i64 18] w fun e w' => e = .returned (.bool b) ∧ w = w'
theorem rest_neg (s : ByteArray) (hs : s.size ≤ 281474976710656) (h : Dg.neg s.data.toList = true) : Rest s (s.extract 1 s.size) (Dg.plain (Dg.rest s.data.toList) 18) := by
  have e : (s.extract 1 s.size).data.toList = Dg.rest s.data.toList := by rw [tail_at]; unfold Dg.rest; rw [if_pos h]
  refine ⟨e, fun w => ?_⟩
  have := plain_any (s.extract 1 s.size) 18 (by omega) (by rw [ByteArray.size_extract]; omega) w
  rw [e] at this
  exact this
theorem rest_pos (s : ByteArray) (hs : s.size ≤ 281474976710656) (h : Dg.neg s.data.toList = false) : Rest s s (Dg.plain (Dg.rest s.data.toList) 18) := by
  have e : s.data.toList = Dg.rest s.data.toList := by unfold Dg.rest; rw [if_neg (by rw [h]; decide)]
  refine ⟨e, fun w => ?_⟩
  have := plain_any s 18 (by omega) hs w
  rw [e] at this
  exact this
theorem atoi_ok (s : ByteArray) (hs : s.size ≤ 281474976710656) (h : Dg.good s.data.toList = true) (w : World) :
    Calls Tryd.prog 121 #[.string s] w fun e w' => e = .returned (.tuple #[.int .i64 (Dg.num s.data.toList), .nilIface]) ∧ Below w.heap.size w w' :=
  (Tryd.strconv_Atoi_ok s (by omega) _ (Dg.atoi_ok h) w).mono fun e w' ⟨he, hw⟩ => ⟨he, by
    rcases hw with hw | ⟨t, hw⟩
    · rw [hw]; exact Below.refl _ _
    · rw [hw]; exact below_bytes _ _ _⟩
set_option maxHeartbeats 4000000 in
set_option maxRecDepth 1000000 in
theorem parse_any (s : ByteArray) (least most : Int) (hs : s.size ≤ 281474976710656) (w : World) :
    Calls Tryd.prog 92 #[.string s, .int .i64 least, .int .i64 most] w fun e w' => e = .returned (.tuple #[.int .i64 (Dg.parse s.data.toList least most).1, .int .i64 (Dg.parse s.data.toList least most).2]) ∧ Below w.heap.size w w' := by
  cases hn : Dg.neg s.data.toList with
  | true =>
    obtain ⟨h0, h45⟩ := (neg_iff s).mp hn
    have b0 : s.toList.isEmpty = false := by rw [empty_iff]; exact decide_eq_false (by omega)
    have b1 : ((s[0].toNat : Int) == 45) = true := by rw [beq_iff_eq]; omega
    have h1 : (1 : Int) ≤ (s.size : Int) := by omega
    have hR := rest_neg s hs hn
    clear h45 hn
    by_cases hg : Dg.good s.data.toList = true
    · have hp : Dg.plain (Dg.rest s.data.toList) 18 = true := by unfold Dg.good at hg; rw [Bool.and_eq_true] at hg; exact hg.1
      have hz : (s.toList == [45, 48]) = false := by rw [dash0]; unfold Dg.good at hg; rw [Bool.and_eq_true, decide_eq_true_iff] at hg; exact decide_eq_false hg.2
      have HA := Lib.hid (atoi_ok s hs hg)
      have e : Dg.parse s.data.toList least most = if Dg.num s.data.toList < least ∨ most < Dg.num s.data.toList then (0, 5) else (Dg.num s.data.toList, 0) := by unfold Dg.parse; rw [if_pos hg]
      rw [hp] at hR
      have HP := Lib.hid hR.plain
      rw [e]
      clear hR hp hg e
      generalize Dg.num s.data.toList = n at *
      by_cases c1 : n < least
      · rw [if_pos (Or.inl c1)]
        have d1 : decide (n < least) = true := decide_eq_true c1
        go_enter Tryd.func92, Tryd.ntmps92
        go_wp2_with fail
        refine (HP.out _).mono ?_
        rintro e w1 ⟨rfl, rfl⟩
        go_wp2_with fail
        refine (HA.out _).mono ?_
        rintro e w2 ⟨rfl, hb⟩
        have HB := Lib.hid hb
        clear hb
        go_wp2
        go_ret2
        exact ⟨rfl, HB.out⟩
      · have d1 : decide (n < least) = false := decide_eq_false c1
        by_cases c2 : most < n
        · rw [if_pos (Or.inr c2)]
          have d2 : decide (most < n) = true := decide_eq_true c2
          go_enter Tryd.func92, Tryd.ntmps92
          go_wp2_with fail
          refine (HP.out _).mono ?_
          rintro e w1 ⟨rfl, rfl⟩
          go_wp2_with fail
          refine (HA.out _).mono ?_
          rintro e w2 ⟨rfl, hb⟩
          have HB := Lib.hid hb
          clear hb
          go_wp2
          go_ret2
          exact ⟨rfl, HB.out⟩
        · rw [if_neg (by omega)]
          have d2 : decide (most < n) = false := decide_eq_false c2
          go_enter Tryd.func92, Tryd.ntmps92
          go_wp2_with fail
          refine (HP.out _).mono ?_
          rintro e w1 ⟨rfl, rfl⟩
          go_wp2_with fail
          refine (HA.out _).mono ?_
          rintro e w2 ⟨rfl, hb⟩
          have HB := Lib.hid hb
          clear hb
          go_wp2
          go_ret2
          exact ⟨rfl, HB.out⟩
    · have e : Dg.parse s.data.toList least most = (0, 3) := by unfold Dg.parse; rw [if_neg hg]
      rw [e]
      cases hp : Dg.plain (Dg.rest s.data.toList) 18 with
      | true =>
        have hz : (s.toList == [45, 48]) = true := by
          rw [dash0]
          unfold Dg.good at hg
          rw [hp, Bool.true_and, decide_eq_true_iff, Decidable.not_not] at hg
          exact decide_eq_true hg
        rw [hp] at hR
        have HP := Lib.hid hR.plain
        clear hR hp hg e
        go_enter Tryd.func92, Tryd.ntmps92
        go_wp2_with fail
        refine (HP.out _).mono ?_
        rintro e w1 ⟨rfl, rfl⟩
        go_wp2
        go_ret2
        exact ⟨rfl, Below.refl _ _⟩
      | false =>
        rw [hp] at hR
        have HP := Lib.hid hR.plain
        clear hR hp hg e
        go_enter Tryd.func92, Tryd.ntmps92
        go_wp2_with fail
        refine (HP.out _).mono ?_
        rintro e w1 ⟨rfl, rfl⟩
        go_wp2
        go_ret2
        exact ⟨rfl, Below.refl _ _⟩
  | false =>
    have hR := rest_pos s hs hn
    have hgp : Dg.good s.data.toList = false → Dg.plain (Dg.rest s.data.toList) 18 = false := fun h => by
      unfold Dg.good at h
      rw [Bool.and_eq_false_iff] at h
      rcases h with h | h
      · exact h
      · rw [decide_eq_false_iff_not, Decidable.not_not] at h
        rw [h] at hn
        cases hn
    by_cases h0 : 0 < s.size
    · have b0 : s.toList.isEmpty = false := by rw [empty_iff]; exact decide_eq_false (by omega)
      have b1 : ((s[0].toNat : Int) == 45) = false := by
        rw [beq_eq_false_iff_ne]
        intro q
        have := (neg_iff s).mpr ⟨h0, by omega⟩
        rw [hn] at this
        cases this
      clear hn
      by_cases hg : Dg.good s.data.toList = true
      · have hp : Dg.plain (Dg.rest s.data.toList) 18 = true := by unfold Dg.good at hg; rw [Bool.and_eq_true] at hg; exact hg.1
        have hz : (s.toList == [45, 48]) = false := by rw [dash0]; unfold Dg.good at hg; rw [Bool.and_eq_true, decide_eq_true_iff] at hg; exact decide_eq_false hg.2
        have HA := Lib.hid (atoi_ok s hs hg)
        have e : Dg.parse s.data.toList least most = if Dg.num s.data.toList < least ∨ most < Dg.num s.data.toList then (0, 5) else (Dg.num s.data.toList, 0) := by unfold Dg.parse; rw [if_pos hg]
        rw [hp] at hR
        have HP := Lib.hid hR.plain
        rw [e]
        clear hR hp hg e
        generalize Dg.num s.data.toList = n at *
        by_cases c1 : n < least
        · rw [if_pos (Or.inl c1)]
          have d1 : decide (n < least) = true := decide_eq_true c1
          go_enter Tryd.func92, Tryd.ntmps92
          go_wp2_with fail
          refine (HP.out _).mono ?_
          rintro e w1 ⟨rfl, rfl⟩
          go_wp2_with fail
          refine (HA.out _).mono ?_
          rintro e w2 ⟨rfl, hb⟩
          have HB := Lib.hid hb
          clear hb
          go_wp2
          go_ret2
          exact ⟨rfl, HB.out⟩
        · have d1 : decide (n < least) = false := decide_eq_false c1
          by_cases c2 : most < n
          · rw [if_pos (Or.inr c2)]
            have d2 : decide (most < n) = true := decide_eq_true c2
            go_enter Tryd.func92, Tryd.ntmps92
            go_wp2_with fail
            refine (HP.out _).mono ?_
            rintro e w1 ⟨rfl, rfl⟩
            go_wp2_with fail
            refine (HA.out _).mono ?_
            rintro e w2 ⟨rfl, hb⟩
            have HB := Lib.hid hb
            clear hb
            go_wp2
            go_ret2
            exact ⟨rfl, HB.out⟩
          · rw [if_neg (by omega)]
            have d2 : decide (most < n) = false := decide_eq_false c2
            go_enter Tryd.func92, Tryd.ntmps92
            go_wp2_with fail
            refine (HP.out _).mono ?_
            rintro e w1 ⟨rfl, rfl⟩
            go_wp2_with fail
            refine (HA.out _).mono ?_
            rintro e w2 ⟨rfl, hb⟩
            have HB := Lib.hid hb
            clear hb
            go_wp2
            go_ret2
            exact ⟨rfl, HB.out⟩
      · have hg' : Dg.good s.data.toList = false := by simpa using hg
        have e : Dg.parse s.data.toList least most = (0, 3) := by unfold Dg.parse; rw [if_neg hg]
        rw [e]
        have hp := hgp hg'
        rw [hp] at hR
        have HP := Lib.hid hR.plain
        clear hR hp hg hg' hgp e
        go_enter Tryd.func92, Tryd.ntmps92
        go_wp2_with fail
        refine (HP.out _).mono ?_
        rintro e w1 ⟨rfl, rfl⟩
        go_wp2
        go_ret2
        exact ⟨rfl, Below.refl _ _⟩
    · have b0 : s.toList.isEmpty = true := by rw [empty_iff]; exact decide_eq_true (by omega)
      have b0' : s.toList = [] := List.isEmpty_iff.mp b0
      have hp : Dg.plain (Dg.rest s.data.toList) 18 = false := by
        have h1 : s.data.toList = [] := List.length_eq_zero_iff.mp (by rw [size_list]; omega)
        rw [h1]; rfl
      have e : Dg.parse s.data.toList least most = (0, 3) := by unfold Dg.parse Dg.good; rw [hp]; rfl
      rw [e]
      rw [hp] at hR
      clear hn hgp
      have hg := trivial
      have HP := Lib.hid hR.plain
      clear hR hp hg e
      go_enter Tryd.func92, Tryd.ntmps92
      go_wp2_with fail
      refine (HP.out _).mono ?_
      rintro e w1 ⟨rfl, rfl⟩
      go_wp2
      go_ret2
      exact ⟨rfl, Below.refl _ _⟩
end Go.Proofs.YtdibkhddhgaghaaDoor.DgW
