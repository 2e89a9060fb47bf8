/- The walks of the reference of the package digit, fourth part: Parse at texts without a sign. -/
import Derived.Test.YtdibkhddhgaghaaDoorRDig3
namespace Go.Proofs.YtdibkhddhgaghaaDoor.DgR
open Go.RowKit DgF DgW
set_option maxHeartbeats 4000000 in
set_option maxRecDepth 1000000 in
theorem parse_pos (s : ByteArray) (least most : Int) (hs : s.size ≤ 281474976710656) (w : World) (hn : Dg.neg s.data.toList = false) (hb0 : 0 < s.size) :
    Calls Tryd.prog 96 #[.string s, .int .i64 least, .int .i64 most] w fun e w' => e = .returned (.tuple #[.int .i64 (Dg.parse s.data.toList least most).1, .int .i64 (Dg.parse s.data.toList least most).2]) ∧ w = w' := by
  have b0 : decide (0 < (s.size : Int)) = true := decide_eq_true (by omega)
  have b0' : decide (0 < s.size) = true := decide_eq_true (by omega)
  have b1 : ((s[0].toNat : Int) == 45) = false := by
    rw [beq_eq_false_iff_ne]
    intro q
    have := (neg_iff s).mpr ⟨hb0, by omega⟩
    rw [hn] at this
    cases this
  have hr : s.data.toList = Dg.rest s.data.toList := by unfold Dg.rest; rw [if_neg (by rw [hn]; decide)]
  have hR := restR s s hs hr
  have hE := parse_eq s s least most hr
  rw [hn] at hE
  rw [hE]
  clear hE hn hr
  have hRd := Lib.hid hR.digits
  clear hR
  have b9 : decide ((s.size : Int) < (s.size : Int)) = false := decide_eq_false (by omega)
  have b9' : decide (s.size < s.size) = false := decide_eq_false (by omega)
  cases hd : digitsB s.data.toList with
  | false =>
    rw [hd] at hRd
    rw [if_neg (fun q => by cases q.1)]
    clear hd
    go_enter Tryd.func96, Tryd.ntmps96
    go_wp2_with (go_at_call 84; refine (hRd.out _).mono ?_; rintro e w' ⟨rfl, rfl⟩)
    go_ret2
    exact ⟨rfl, rfl⟩
  | true =>
    have hall := digitsB_all hd
    rw [hd] at hRd
    by_cases hl : s.size ≤ 18
    · have b2 : decide (18 < (s.size : Int)) = false := decide_eq_false (by omega)
      have hpl : Dg.plain s.data.toList 18 = true := by rw [digits_plain, hd, size_list, decide_eq_true hl]; rfl
      have hT18 := Dg.val18 hpl
      generalize hT : Dg.val 0 s.data.toList = T at *
      have HT := Lib.hid hT
      have HL := Lib.hid hall
      clear hT hpl hd hall
      rw [if_pos ⟨rfl, hl, fun q => by cases q.1⟩]
      have hif : (if false = true then -(T : Int) else (T : Int)) = (T : Int) := rfl
      rw [hif]
      have hb18 : (T : Int) ≤ 1000000000000000000 := by omega
      by_cases k1 : (T : Int) < least
      · rw [if_pos (Or.inl k1)]
        have d1 : decide ((T : Int) < least) = true := decide_eq_true k1
        have k1' : (T : Int) < least := k1
        go_enter Tryd.func96, Tryd.ntmps96
        go_wp2_with (go_at_call 84; refine (hRd.out _).mono ?_; rintro e w' ⟨rfl, rfl⟩)
        go_loop [9, 10] (fun v i => ∃ k V : Nat, k ≤ s.size ∧ i = .int .i64 k ∧ v = .int .i64 V ∧ Hid (Dg.val V (s.data.toList.drop k) = T)) (fun _ i => s.size - (intOf i).toNat)
        case atStart => exact ⟨0, 0, by omega, rfl, rfl, by rw [List.drop_zero]; exact HT⟩
        case round =>
          obtain ⟨k, V, hk, rfl, rfl, hT⟩ := hrel
          by_cases hp : k < s.size
          · obtain ⟨h1, h2⟩ := isD_at HL.out k hp
            have hn : Dg.val (V * 10 + (s[k].toNat - 48)) (s.data.toList.drop (k + 1)) = T := by rw [← val_step s k V hp]; exact hT
            have hge := Dg.val_ge (s.data.toList.drop (k + 1)) (V * 10 + (s[k].toNat - 48))
            rw [hn] at hge
            have HN := Lib.hid hn
            clear hn hT
            have c1 : (48 : Int) ≤ (s[k].toNat : Int) := by omega
            have c2 : (s[k].toNat : Int) ≤ 57 := by omega
            have c3 : (10 : Int) * (V : Int) ≤ 10000000000000000000 - 1 := by omega
            have c4 : (10 : Int) * (V : Int) ≤ 1000000000000000000 := by omega
            go_wp2
            exact ⟨⟨k + 1, V * 10 + (s[k].toNat - 48), by omega, by go_num, int_val (by omega), HN⟩, by show s.size - ((k : Int) + 1).toNat < s.size - (k : Int).toNat; omega⟩
          · have hV : V = T := by
              have q : Dg.val V (s.data.toList.drop k) = T := hT
              rw [List.drop_of_length_le (by rw [size_list]; omega)] at q
              exact q
            subst hV
            clear hT
            go_wp2
            go_ret2
            exact ⟨rfl, rfl⟩
      · have d1 : decide ((T : Int) < least) = false := decide_eq_false k1
        by_cases k2 : most < (T : Int)
        · rw [if_pos (Or.inr k2)]
          have d2 : decide (most < (T : Int)) = true := decide_eq_true k2
          go_enter Tryd.func96, Tryd.ntmps96
          go_wp2_with (go_at_call 84; refine (hRd.out _).mono ?_; rintro e w' ⟨rfl, rfl⟩)
          go_loop [9, 10] (fun v i => ∃ k V : Nat, k ≤ s.size ∧ i = .int .i64 k ∧ v = .int .i64 V ∧ Hid (Dg.val V (s.data.toList.drop k) = T)) (fun _ i => s.size - (intOf i).toNat)
          case atStart => exact ⟨0, 0, by omega, rfl, rfl, by rw [List.drop_zero]; exact HT⟩
          case round =>
            obtain ⟨k, V, hk, rfl, rfl, hT⟩ := hrel
            by_cases hp : k < s.size
            · obtain ⟨h1, h2⟩ := isD_at HL.out k hp
              have hn : Dg.val (V * 10 + (s[k].toNat - 48)) (s.data.toList.drop (k + 1)) = T := by rw [← val_step s k V hp]; exact hT
              have hge := Dg.val_ge (s.data.toList.drop (k + 1)) (V * 10 + (s[k].toNat - 48))
              rw [hn] at hge
              have HN := Lib.hid hn
              clear hn hT
              have c1 : (48 : Int) ≤ (s[k].toNat : Int) := by omega
              have c2 : (s[k].toNat : Int) ≤ 57 := by omega
              have c3 : (10 : Int) * (V : Int) ≤ 10000000000000000000 - 1 := by omega
              have c4 : (10 : Int) * (V : Int) ≤ 1000000000000000000 := by omega
              go_wp2
              exact ⟨⟨k + 1, V * 10 + (s[k].toNat - 48), by omega, by go_num, int_val (by omega), HN⟩, by show s.size - ((k : Int) + 1).toNat < s.size - (k : Int).toNat; omega⟩
            · have hV : V = T := by
                have q : Dg.val V (s.data.toList.drop k) = T := hT
                rw [List.drop_of_length_le (by rw [size_list]; omega)] at q
                exact q
              subst hV
              clear hT
              go_wp2
              go_ret2
              exact ⟨rfl, rfl⟩
        · rw [if_neg (fun q => q.elim k1 k2)]
          have d2 : decide (most < (T : Int)) = false := decide_eq_false k2
          go_enter Tryd.func96, Tryd.ntmps96
          go_wp2_with (go_at_call 84; refine (hRd.out _).mono ?_; rintro e w' ⟨rfl, rfl⟩)
          go_loop [9, 10] (fun v i => ∃ k V : Nat, k ≤ s.size ∧ i = .int .i64 k ∧ v = .int .i64 V ∧ Hid (Dg.val V (s.data.toList.drop k) = T)) (fun _ i => s.size - (intOf i).toNat)
          case atStart => exact ⟨0, 0, by omega, rfl, rfl, by rw [List.drop_zero]; exact HT⟩
          case round =>
            obtain ⟨k, V, hk, rfl, rfl, hT⟩ := hrel
            by_cases hp : k < s.size
            · obtain ⟨h1, h2⟩ := isD_at HL.out k hp
              have hn : Dg.val (V * 10 + (s[k].toNat - 48)) (s.data.toList.drop (k + 1)) = T := by rw [← val_step s k V hp]; exact hT
              have hge := Dg.val_ge (s.data.toList.drop (k + 1)) (V * 10 + (s[k].toNat - 48))
              rw [hn] at hge
              have HN := Lib.hid hn
              clear hn hT
              have c1 : (48 : Int) ≤ (s[k].toNat : Int) := by omega
              have c2 : (s[k].toNat : Int) ≤ 57 := by omega
              have c3 : (10 : Int) * (V : Int) ≤ 10000000000000000000 - 1 := by omega
              have c4 : (10 : Int) * (V : Int) ≤ 1000000000000000000 := by omega
              go_wp2
              exact ⟨⟨k + 1, V * 10 + (s[k].toNat - 48), by omega, by go_num, int_val (by omega), HN⟩, by show s.size - ((k : Int) + 1).toNat < s.size - (k : Int).toNat; omega⟩
            · have hV : V = T := by
                have q : Dg.val V (s.data.toList.drop k) = T := hT
                rw [List.drop_of_length_le (by rw [size_list]; omega)] at q
                exact q
              subst hV
              clear hT
              go_wp2
              go_ret2
              exact ⟨rfl, rfl⟩
    · rw [if_neg (fun q => hl q.2.1)]
      have b2 : decide (18 < (s.size : Int)) = true := decide_eq_true (by omega)
      clear hd hall
      go_enter Tryd.func96, Tryd.ntmps96
      go_wp2_with (go_at_call 84; refine (hRd.out _).mono ?_; rintro e w' ⟨rfl, rfl⟩)
      go_ret2
      exact ⟨rfl, rfl⟩
set_option maxHeartbeats 4000000 in
set_option maxRecDepth 1000000 in
theorem parse_empty (s : ByteArray) (least most : Int) (w : World) (h0 : s.size = 0) :
    Calls Tryd.prog 96 #[.string s, .int .i64 least, .int .i64 most] w fun e w' => e = .returned (.tuple #[.int .i64 (Dg.parse s.data.toList least most).1, .int .i64 (Dg.parse s.data.toList least most).2]) ∧ w = w' := by
  have hl : s.data.toList = [] := List.length_eq_zero_iff.mp (by rw [size_list]; exact h0)
  have hd := digits_any s (by omega)
  rw [hl] at hd ⊢
  have e1 : digitsB [] = false := rfl
  have e2 : Dg.parse [] least most = (0, 3) := rfl
  rw [e1] at hd
  rw [e2]
  have HD := Lib.hid hd
  have b0 : decide (0 < (s.size : Int)) = false := decide_eq_false (by omega)
  have b0' : decide (0 < s.size) = false := decide_eq_false (by omega)
  clear hl hd e1 e2 h0
  go_enter Tryd.func96, Tryd.ntmps96
  go_wp2_with (go_at_call 84; refine (HD.out _).mono ?_; rintro e w' ⟨rfl, rfl⟩)
  go_ret2
  exact ⟨rfl, rfl⟩
theorem parse_any (s : ByteArray) (least most : Int) (hs : s.size ≤ 281474976710656) (w : World) :
    Calls Tryd.prog 96 #[.string s, .int .i64 least, .int .i64 most] w fun e w' => e = .returned (.tuple #[.int .i64 (Dg.parse s.data.toList least most).1, .int .i64 (Dg.parse s.data.toList least most).2]) ∧ w = w' := by
  cases hn : Dg.neg s.data.toList with
  | true => exact parse_neg s least most hs w hn
  | false =>
    by_cases h0 : 0 < s.size
    · exact parse_pos s least most hs w hn h0
    · exact parse_empty s least most w (by omega)
end Go.Proofs.YtdibkhddhgaghaaDoor.DgR
