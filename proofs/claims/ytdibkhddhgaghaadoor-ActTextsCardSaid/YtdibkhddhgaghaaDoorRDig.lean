/- The walks of the reference of the package digit: digits. -/
import Derived.Test.YtdibkhddhgaghaaDoorDigitParse
import Derived.Laws.BitsLemmas
import Derived.WideShapes
namespace Go.Proofs.YtdibkhddhgaghaaDoor.DgR
open Go.RowKit DgF DgW
def digitsB (l : List UInt8) : Bool := decide (l ≠ [] ∧ ¬ (l.head? = some 48 ∧ 1 < l.length)) && l.all Dg.isD
theorem digits_plain (l : List UInt8) (m : Nat) : Dg.plain l m = (digitsB l && decide (l.length ≤ m)) := by
  unfold Dg.plain digitsB
  rw [Bool.eq_iff_iff, Bool.and_eq_true, Bool.and_eq_true, Bool.and_eq_true, decide_eq_true_iff, decide_eq_true_iff, decide_eq_true_iff]
  constructor
  · rintro ⟨⟨a, b, c⟩, d⟩; exact ⟨⟨⟨a, c⟩, d⟩, b⟩
  · rintro ⟨⟨⟨a, c⟩, d⟩, b⟩; exact ⟨⟨a, b, c⟩, d⟩
theorem digits_at (s : ByteArray) (h : 0 < s.size) (hall : s.data.toList.all Dg.isD = true) : digitsB s.data.toList = (decide (s.size = 1) || decide (s[0].toNat ≠ 48)) := by
  unfold digitsB
  rw [hall, Bool.and_true, Bool.eq_iff_iff, decide_eq_true_iff, Bool.or_eq_true, decide_eq_true_iff, decide_eq_true_iff, size_list, head_at s h]
  have hne : s.data.toList ≠ [] := fun e => by have := size_list s; rw [e] at this; simp at this; omega
  constructor
  · rintro ⟨_, q⟩
    by_cases h1 : s.size = 1
    · exact .inl h1
    · exact .inr (fun e => q ⟨congrArg some (UInt8.toNat_inj.mp e), by omega⟩)
  · rintro q
    refine ⟨hne, fun e => ?_⟩
    rcases q with q | q
    · omega
    · exact q (by rw [Option.some.inj e.1]; rfl)
set_option maxHeartbeats 2000000 in
set_option maxRecDepth 1000000 in
theorem digits_any (s : ByteArray) (hs : s.size ≤ 281474976710656) (w : World) :
    Calls Tryd.prog 84 #[.string s] w fun e w' => e = .returned (.bool (digitsB s.data.toList)) ∧ w = w' := by
  by_cases h0 : s.size = 0
  · have e : digitsB s.data.toList = false := by
      rw [List.length_eq_zero_iff.mp (by rw [size_list]; exact h0 : s.data.toList.length = 0)]; rfl
    rw [e]
    have b0 : ((s.size : Int) == 0) = true := by rw [beq_iff_eq]; omega
    clear e h0
    go_enter Tryd.func84, Tryd.ntmps84
    go_wp2
    go_ret
    exact ⟨rfl, rfl⟩
  · have b0 : ((s.size : Int) == 0) = false := by rw [beq_eq_false_iff_ne]; omega
    have hpos : 0 < s.size := by omega
    clear h0
    go_enter Tryd.func84, Tryd.ntmps84
    go_wp2
    go_loop [3] (fun i => ∃ k : Nat, k ≤ s.size ∧ i = .int .i64 k ∧ Hid (s.data.toList.all Dg.isD = (s.data.toList.drop k).all Dg.isD)) (fun i => s.size - (intOf i).toNat)
    case atStart => exact ⟨0, by omega, rfl, by rw [List.drop_zero]; rfl⟩
    case round =>
      obtain ⟨k, hk, rfl, hka⟩ := hrel
      by_cases hp : k < s.size
      · have hz : s.data.toList.drop k = s[k] :: s.data.toList.drop (k + 1) := drop_at s k hp
        have hc := s[k].toNat_lt
        have HA := Lib.hid hka
        clear hka
        by_cases hd : Dg.isD s[k] = true
        · have HN := Lib.hid (show s.data.toList.all Dg.isD = (s.data.toList.drop (k + 1)).all Dg.isD by rw [HA.out, hz, List.all_cons, hd, Bool.true_and])
          rw [Dg.isD_iff] at hd
          obtain ⟨h1, h2⟩ := hd
          have d1 : decide ((s[k].toNat : Int) < 48) = false := decide_eq_false (by omega)
          have d2 : decide (57 < (s[k].toNat : Int)) = false := decide_eq_false (by omega)
          clear hz h1 h2
          go_wp2
          exact ⟨⟨k + 1, by omega, by go_num, HN⟩, by show s.size - ((k : Int) + 1).toNat < s.size - (k : Int).toNat; omega⟩
        · have HE := Lib.hid (show digitsB s.data.toList = false by
            have : s.data.toList.all Dg.isD = false := by rw [HA.out, hz, List.all_cons, show Dg.isD s[k] = false by simpa using hd, Bool.false_and]
            unfold digitsB; rw [this, Bool.and_false])
          rw [Dg.isD_iff] at hd
          clear hz
          by_cases h1 : s[k].toNat < 48
          · have d1 : decide ((s[k].toNat : Int) < 48) = true := decide_eq_true (by omega)
            clear hd h1
            go_wp2
            go_ret
            exact ⟨by rw [HE.out]; rfl, rfl⟩
          · have d1 : decide ((s[k].toNat : Int) < 48) = false := decide_eq_false (by omega)
            have d2 : decide (57 < (s[k].toNat : Int)) = true := decide_eq_true (by omega)
            clear hd h1
            go_wp2
            go_ret
            exact ⟨by rw [HE.out]; rfl, rfl⟩
      · have hall : s.data.toList.all Dg.isD = true := by
          have h : s.data.toList.all Dg.isD = (s.data.toList.drop k).all Dg.isD := hka
          rw [h, List.drop_of_length_le (by rw [size_list]; omega)]; rfl
        have HE := Lib.hid (digits_at s hpos hall)
        clear hall hka
        by_cases h1 : s.size = 1
        · have d1 : ((s.size : Int) == 1) = true := by rw [beq_iff_eq]; omega
          have HE := Lib.hid (show digitsB s.data.toList = true by rw [HE.out, decide_eq_true h1, Bool.true_or])
          clear h1
          go_wp2
          go_ret
          exact ⟨by rw [HE.out]; rfl, rfl⟩
        · have d1 : ((s.size : Int) == 1) = false := by rw [beq_eq_false_iff_ne]; omega
          by_cases h48 : s[0].toNat = 48
          · have d2 : ((s[0].toNat : Int) != 48) = false := by rw [← Bool.not_eq_true, bne_iff_ne]; omega
            have HE := Lib.hid (show digitsB s.data.toList = false by rw [HE.out, decide_eq_false h1, decide_eq_false (fun q => q h48)]; rfl)
            clear h1 h48
            go_wp2
            go_ret
            exact ⟨by rw [HE.out]; rfl, rfl⟩
          · have d2 : ((s[0].toNat : Int) != 48) = true := by rw [bne_iff_ne]; omega
            have HE := Lib.hid (show digitsB s.data.toList = true by rw [HE.out, decide_eq_true h48, Bool.or_true])
            clear h1 h48
            go_wp2
            go_ret
            exact ⟨by rw [HE.out]; rfl, rfl⟩
end Go.Proofs.YtdibkhddhgaghaaDoor.DgR
