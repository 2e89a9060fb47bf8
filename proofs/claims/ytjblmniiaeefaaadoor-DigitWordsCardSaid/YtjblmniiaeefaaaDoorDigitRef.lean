/- The walks of the reference of the package digit: digits, tail, Print, Show. -/
import Derived.Outline
import Derived.Test.YtjblmniiaeefaaaDoorDigitParse
import Derived.Test.YtjblmniiaeefaaaDoorPDigitWordsx2
import Derived.Laws.BitsLemmas
import Derived.WideShapes
namespace Go.Proofs.YtjblmniiaeefaaaDoor.DgR
open Go.RowKit DgF DgW
def digitsB (l : List UInt8) : Bool := decide (l ≠ [] ∧ ¬ (l.head? = some 48 ∧ 1 < l.length)) && l.all Dg.isD
theorem digits_plain (l : List UInt8) (m : Nat) : Dg.plain l m = (digitsB l && decide (l.length ≤ m)) := by
  unfold Dg.plain digitsB
  rw [Bool.eq_iff_iff, Bool.and_eq_true, Bool.and_eq_true, Bool.and_eq_true, decide_eq_true_iff, decide_eq_true_iff, decide_eq_true_iff]
  constructor
  · rintro ⟨⟨a, b, c⟩, d⟩; exact ⟨⟨⟨a, c⟩, d⟩, b⟩
  · rintro ⟨⟨⟨a, c⟩, d⟩, b⟩; exact ⟨⟨a, b, c⟩, d⟩
theorem digits_at (s : ByteArray) (h : 0 < s.size) (hall : s.data.toList.all Dg.isD = true) : digitsB s.data.toList = (decide (s.size = 1) || decide (s[0].toNat ≠ 48)) := by
  unfold digitsB
  rw [hall, Bool.and_true, Bool.eq_iff_iff, decide_eq_true_iff, Bool.or_eq_true, decide_eq_true_iff, decide_eq_true_iff, size_list, head_at s h]
  have hne : s.data.toList ≠ [] := fun e => by have := size_list s; rw [e] at this; simp at this; omega
  constructor
  · rintro ⟨_, q⟩
    by_cases h1 : s.size = 1
    · exact .inl h1
    · exact .inr (fun e => q ⟨congrArg some (UInt8.toNat_inj.mp e), by omega⟩)
  · rintro q
    refine ⟨hne, fun e => ?_⟩
    rcases q with q | q
    · omega
    · exact q (by rw [Option.some.inj e.1]; rfl)
set_option maxHeartbeats 2000000 in
set_option maxRecDepth 1000000 in
theorem digits_any (s : ByteArray) (hs : s.size ≤ 281474976710656) (w : World) :
    Calls Tryd.prog 70 #[.string s] w fun e w' => e = .returned (.bool (digitsB s.data.toList)) ∧ w = w' := by
  by_cases h0 : s.size = 0
  · have e : digitsB s.data.toList = false := by
      rw [List.length_eq_zero_iff.mp (by rw [size_list]; exact h0 : s.data.toList.length = 0)]; rfl
    rw [e]
    have b0 : ((s.size : Int) == 0) = true := by rw [beq_iff_eq]; omega
    clear e h0
    go_enter Tryd.func70, Tryd.ntmps70
    go_wp2
    go_ret
    exact ⟨rfl, rfl⟩
  · have b0 : ((s.size : Int) == 0) = false := by rw [beq_eq_false_iff_ne]; omega
    have hpos : 0 < s.size := by omega
    clear h0
    go_enter Tryd.func70, Tryd.ntmps70
    go_wp2
    go_loop [3] (fun i => ∃ k : Nat, k ≤ s.size ∧ i = .int .i64 k ∧ Hid (s.data.toList.all Dg.isD = (s.data.toList.drop k).all Dg.isD)) (fun i => s.size - (intOf i).toNat)
    case atStart => exact ⟨0, by omega, rfl, by rw [List.drop_zero]; rfl⟩
    case round =>
      obtain ⟨k, hk, rfl, hka⟩ := hrel
      by_cases hp : k < s.size
      · have hz : s.data.toList.drop k = s[k] :: s.data.toList.drop (k + 1) := drop_at s k hp
        have hc := s[k].toNat_lt
        have HA := Lib.hid hka
        clear hka
        by_cases hd : Dg.isD s[k] = true
        · have HN := Lib.hid (show s.data.toList.all Dg.isD = (s.data.toList.drop (k + 1)).all Dg.isD by rw [HA.out, hz, List.all_cons, hd, Bool.true_and])
          rw [Dg.isD_iff] at hd
          obtain ⟨h1, h2⟩ := hd
          have d1 : decide ((s[k].toNat : Int) < 48) = false := decide_eq_false (by omega)
          have d2 : decide (57 < (s[k].toNat : Int)) = false := decide_eq_false (by omega)
          clear hz h1 h2
          go_wp2
          exact ⟨⟨k + 1, by omega, by go_num, HN⟩, by show s.size - ((k : Int) + 1).toNat < s.size - (k : Int).toNat; omega⟩
        · have HE := Lib.hid (show digitsB s.data.toList = false by
            have : s.data.toList.all Dg.isD = false := by rw [HA.out, hz, List.all_cons, show Dg.isD s[k] = false by simpa using hd, Bool.false_and]
            unfold digitsB; rw [this, Bool.and_false])
          rw [Dg.isD_iff] at hd
          clear hz
          by_cases h1 : s[k].toNat < 48
          · have d1 : decide ((s[k].toNat : Int) < 48) = true := decide_eq_true (by omega)
            clear hd h1
            go_wp2
            go_ret
            exact ⟨by rw [HE.out]; rfl, rfl⟩
          · have d1 : decide ((s[k].toNat : Int) < 48) = false := decide_eq_false (by omega)
            have d2 : decide (57 < (s[k].toNat : Int)) = true := decide_eq_true (by omega)
            clear hd h1
            go_wp2
            go_ret
            exact ⟨by rw [HE.out]; rfl, rfl⟩
      · have hall : s.data.toList.all Dg.isD = true := by
          have h : s.data.toList.all Dg.isD = (s.data.toList.drop k).all Dg.isD := hka
          rw [h, List.drop_of_length_le (by rw [size_list]; omega)]; rfl
        have HE := Lib.hid (digits_at s hpos hall)
        clear hall hka
        by_cases h1 : s.size = 1
        · have d1 : ((s.size : Int) == 1) = true := by rw [beq_iff_eq]; omega
          have HE := Lib.hid (show digitsB s.data.toList = true by rw [HE.out, decide_eq_true h1, Bool.true_or])
          clear h1
          go_wp2
          go_ret
          exact ⟨by rw [HE.out]; rfl, rfl⟩
        · have d1 : ((s.size : Int) == 1) = false := by rw [beq_eq_false_iff_ne]; omega
          by_cases h48 : s[0].toNat = 48
          · have d2 : ((s[0].toNat : Int) != 48) = false := by rw [← Bool.not_eq_true, bne_iff_ne]; omega
            have HE := Lib.hid (show digitsB s.data.toList = false by rw [HE.out, decide_eq_false h1, decide_eq_false (fun q => q h48)]; rfl)
            clear h1 h48
            go_wp2
            go_ret
            exact ⟨by rw [HE.out]; rfl, rfl⟩
          · have d2 : ((s[0].toNat : Int) != 48) = true := by rw [bne_iff_ne]; omega
            have HE := Lib.hid (show digitsB s.data.toList = true by rw [HE.out, decide_eq_true h48, Bool.or_true])
            clear h1 h48
            go_wp2
            go_ret
            exact ⟨by rw [HE.out]; rfl, rfl⟩
open Go.Proofs.YtjblmniiaeefaaaDoor.PDigitWords Go.Proofs.YtjblmniiaeefaaaDoorW.PrintWords
theorem wrap_u64_ (n : Int) : IntKind.u64.wrap n = n % 18446744073709551616 := by simp [IntKind.wrap, IntKind.bits, IntKind.signed]
theorem strOf_one (n : Nat) : strOfNums [((n : Nat) : Int)] = ⟨#[UInt8.ofNat n]⟩ := by
  unfold strOfNums; simp
theorem tail_f (d : Nat) : ∀ (k u : Nat), u < 10 ^ d → d < k → u < 18446744073709551616 → sprocketref01_tail.f k (u : Int) = some ⟨(Lib.decDigits u).toArray⟩ := by
  induction d with
  | zero =>
    intro k u hu hk _
    have : u = 0 := by omega
    subst this
    obtain ⟨k, rfl⟩ : ∃ m, k = m + 1 := ⟨k - 1, by omega⟩
    rw [sprocketref01_tail.f, if_pos (by omega), Dg.dec_small (by omega)]
    rfl
  | succ d ih =>
    intro k u hu hk h64
    obtain ⟨k, rfl⟩ : ∃ m, k = m + 1 := ⟨k - 1, by omega⟩
    rw [sprocketref01_tail.f]
    by_cases h : u < 10
    · rw [if_pos (by omega), Dg.dec_small h]
      have e : (IntKind.u64.wrap (48 + (u : Int))) % 256 = ((48 + u : Nat) : Int) := by rw [wrap_u64_]; omega
      rw [e, strOf_one]
    · rw [if_neg (by omega), Dg.dec_big h]
      have e1 : IntKind.u64.wrap (Int.tdiv (u : Int) 10) = ((u / 10 : Nat) : Int) := by
        rw [Int.tdiv_eq_ediv_of_nonneg (by omega), wrap_u64_]; omega
      have e2 : (IntKind.u64.wrap (48 + Int.tmod (u : Int) 10)) % 256 = ((48 + u % 10 : Nat) : Int) := by
        rw [Int.tmod_eq_emod_of_nonneg (by omega), wrap_u64_]; omega
      rw [e1, ih k (u / 10) (by rw [Nat.pow_succ] at hu; omega) (by omega) (by omega)]
      simp only [Option.bind_some]
      rw [e2, strOf_one]
      have hl : (⟨(Lib.decDigits (u / 10)).toArray⟩ : ByteArray).size ≤ 20 := by
        show (Lib.decDigits (u / 10)).toArray.size ≤ 20
        rw [List.size_toArray]
        exact Dg.dec_len 20 (u / 10) (by omega) (by omega)
      have h1 : (⟨#[UInt8.ofNat (48 + u % 10)]⟩ : ByteArray).size = 1 := rfl
      rw [if_pos (by rw [h1]; omega)]
      refine congrArg some ?_
      apply WideShapes.bytes_inj
      rw [ByteArray.data_append]
      simp
theorem tail_any (u : Nat) (h : u < 18446744073709551616) (w : World) : Calls Tryd.prog 72 #[.int .u64 u] w fun e w' => e = .returned (.string ⟨(Lib.decDigits u).toArray⟩) ∧ Below w.heap.size w w' :=
  sprocketref01_tail.calls 21 u _ w (tail_f 20 21 u (by omega) (by omega) h)
set_option maxHeartbeats 1000000 in
theorem show_any (u : Nat) (h : u < 18446744073709551616) (w : World) : Calls Tryd.prog 28 #[.int .u64 u] w fun e w' => e = .returned (.string ⟨(Lib.decDigits u).toArray⟩) ∧ Below w.heap.size w w' := by
  go_enter Tryd.func28, Tryd.ntmps28
  go_wp2_with fail
  refine (tail_any u h _).mono ?_
  rintro e w1 ⟨rfl, hb⟩
  have HB := Lib.hid hb
  clear hb
  go_wp2
  go_ret
  exact ⟨rfl, HB.out⟩
theorem tail_int (z : Int) (u : Nat) (hz : z = u) (h : u < 18446744073709551616) (w : World) : Calls Tryd.prog 72 #[.int .u64 z] w fun e w' => e = .returned (.string ⟨(Lib.decDigits u).toArray⟩) ∧ Below w.heap.size w w' := by
  subst hz; exact tail_any u h w
set_option maxHeartbeats 1000000 in
theorem print_any (n : Int) (h0 : -9223372036854775808 ≤ n) (h1 : n ≤ 9223372036854775807) (w : World) : Calls Tryd.prog 23 #[.int .i64 n] w fun e w' => e = .returned (.string ⟨(Lib.itoa n).toArray⟩) ∧ Below w.heap.size w w' := by
  by_cases hn : n < 0
  · have E := Lib.hid (show (⟨#[45]⟩ : ByteArray) ++ ⟨(Lib.decDigits n.natAbs).toArray⟩ = ⟨(Lib.itoa n).toArray⟩ by
      apply WideShapes.bytes_inj
      unfold Lib.itoa
      rw [if_pos hn, ByteArray.data_append]; simp)
    have hl : (⟨(Lib.decDigits n.natAbs).toArray⟩ : ByteArray).size ≤ 20 := by
      show (Lib.decDigits n.natAbs).toArray.size ≤ 20
      rw [List.size_toArray]
      exact Dg.dec_len 20 n.natAbs (by omega) (by omega)
    have hl2 : (Lib.decDigits n.natAbs).length ≤ 20 := Dg.dec_len 20 n.natAbs (by omega) (by omega)
    have hl3 : 1 + (⟨(Lib.decDigits n.natAbs).toArray⟩ : ByteArray).size ≤ 9223372036854775807 := by omega
    have TL := fun (z : Int) (hz : z = (n.natAbs : Nat)) w => tail_int z n.natAbs hz (by omega) w
    generalize (⟨(Lib.decDigits n.natAbs).toArray⟩ : ByteArray) = p at *
    have TL := Lib.hid TL
    go_enter Tryd.func23, Tryd.ntmps23
    go_wp2_with fail
    refine (TL.out _ (by first | omega | (simp only [wrap64, wrap_u64_, IntKind.wrap_i64]; omega)) _).mono ?_
    rintro e w1 ⟨rfl, hb⟩
    have HB := Lib.hid hb
    clear hb
    go_wp2
    go_ret
    exact ⟨by rw [← E.out]; rfl, HB.out⟩
  · have E := Lib.hid (show Lib.decDigits n.toNat = Lib.itoa n by unfold Lib.itoa; rw [if_neg hn])
    go_enter Tryd.func23, Tryd.ntmps23
    go_wp2_with fail
    refine (tail_int _ n.toNat (by first | omega | (simp only [wrap64, wrap_u64_, IntKind.wrap_i64]; omega)) (by omega) _).mono ?_
    rintro e w1 ⟨rfl, hb⟩
    have HB := Lib.hid hb
    clear hb
    go_wp2
    go_ret
    exact ⟨by rw [← E.out]; rfl, HB.out⟩
end Go.Proofs.YtjblmniiaeefaaaDoor.DgR
