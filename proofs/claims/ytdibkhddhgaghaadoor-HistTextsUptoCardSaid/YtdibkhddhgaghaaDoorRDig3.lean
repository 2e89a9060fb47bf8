/- The walks of the reference of the package digit, third part: Parse. -/
import Derived.Test.YtdibkhddhgaghaaDoorRDig2
namespace Go.Proofs.YtdibkhddhgaghaaDoor.DgR
open Go.RowKit DgF DgW
theorem zero_iff (r : List UInt8) (h : Dg.plain r 18 = true) : Dg.val 0 r = 0 ↔ r = [48] := by
  obtain ⟨⟨h0, _, h2⟩, h3⟩ := Dg.plain_iff.mp h
  constructor
  · intro hv
    cases r with
    | nil => exact absurd rfl h0
    | cons c r =>
      rw [List.all_cons, Bool.and_eq_true, Dg.isD_iff] at h3
      rw [val_cons] at hv
      have hp : 1 ≤ 10 ^ r.length := Nat.one_le_pow _ _ (by decide)
      have hc : c.toNat = 48 := by
        rcases Nat.eq_zero_or_pos (c.toNat - 48) with e | e
        · omega
        · have := Nat.mul_le_mul e hp
          omega
      have hc' : c = 48 := UInt8.toNat_inj.mp hc
      subst hc'
      cases r with
      | nil => rfl
      | cons d r => exact absurd ⟨rfl, by simp⟩ h2
  · rintro rfl; rfl
theorem good_iff {l : List UInt8} (h : Dg.plain (Dg.rest l) 18 = true) : Dg.good l = true ↔ ¬ (Dg.neg l = true ∧ Dg.val 0 (Dg.rest l) = 0) := by
  unfold Dg.good
  rw [h, Bool.true_and, decide_eq_true_iff]
  rw [zero_iff _ h]
  constructor
  · rintro q ⟨hn, hr⟩
    apply q
    unfold Dg.rest at hr
    rw [if_pos hn] at hr
    cases l with
    | nil => cases hr
    | cons c r =>
      have hc : c = 45 := by
        unfold Dg.neg at hn
        rw [decide_eq_true_iff] at hn
        exact Option.some.inj hn
      have hr' : r = [48] := hr
      rw [hc, hr']
  · rintro q rfl
    exact q ⟨rfl, rfl⟩
/-- the rest's text, and what the reference's digits says of it -/
structure RestR (s r : ByteArray) (b : Bool) : Prop where
  list : r.data.toList = Dg.rest s.data.toList
  digits : ∀ w, Calls Tryd.prog 84 #[.string r] w fun e w' => e = .returned (.bool b) ∧ w = w'
theorem restR (s r : ByteArray) (hs : r.size ≤ 281474976710656) (h : r.data.toList = Dg.rest s.data.toList) : RestR s r (digitsB r.data.toList) := ⟨h, fun w => digits_any r hs w⟩
theorem parse_eq (s r : ByteArray) (least most : Int) (h : r.data.toList = Dg.rest s.data.toList) : Dg.parse s.data.toList least most =
    if digitsB r.data.toList = true ∧ r.size ≤ 18 ∧ ¬ (Dg.neg s.data.toList = true ∧ Dg.val 0 r.data.toList = 0) then
      (if (if Dg.neg s.data.toList = true then -(Dg.val 0 r.data.toList : Int) else (Dg.val 0 r.data.toList : Int)) < least ∨ most < (if Dg.neg s.data.toList = true then -(Dg.val 0 r.data.toList : Int) else (Dg.val 0 r.data.toList : Int)) then (0, 5) else ((if Dg.neg s.data.toList = true then -(Dg.val 0 r.data.toList : Int) else (Dg.val 0 r.data.toList : Int)), 0)) else (0, 3) := by
  have hp := digits_plain r.data.toList 18
  rw [size_list] at hp
  unfold Dg.parse Dg.num
  rw [h] at hp ⊢
  by_cases hpl : Dg.plain (Dg.rest s.data.toList) 18 = true
  · have hg := good_iff hpl
    rw [hpl] at hp
    have hp := hp.symm
    rw [Bool.and_eq_true, decide_eq_true_iff] at hp
    by_cases hgood : Dg.good s.data.toList = true
    · rw [if_pos hgood]
      exact (if_pos ⟨hp.1, hp.2, hg.mp hgood⟩).symm
    · rw [if_neg hgood, if_neg (fun q => hgood (hg.mpr q.2.2))]
  · have hgood : ¬ Dg.good s.data.toList = true := fun q => by unfold Dg.good at q; rw [Bool.and_eq_true] at q; exact hpl q.1
    rw [if_neg hgood, if_neg]
    rintro ⟨q1, q2, _⟩
    rw [q1, decide_eq_true q2] at hp
    exact hpl hp
set_option maxHeartbeats 4000000 in
set_option maxRecDepth 1000000 in
theorem parse_neg (s : ByteArray) (least most : Int) (hs : s.size ≤ 281474976710656) (w : World) (hn : Dg.neg s.data.toList = true) :
    Calls Tryd.prog 96 #[.string s, .int .i64 least, .int .i64 most] w fun e w' => e = .returned (.tuple #[.int .i64 (Dg.parse s.data.toList least most).1, .int .i64 (Dg.parse s.data.toList least most).2]) ∧ w = w' := by
  obtain ⟨h0, h45⟩ := (neg_iff s).mp hn
  have b0 : decide (0 < (s.size : Int)) = true := decide_eq_true (by omega)
  have b0' : decide (0 < s.size) = true := decide_eq_true (by omega)
  have b1 : ((s[0].toNat : Int) == 45) = true := by rw [beq_iff_eq]; omega
  have h1 : (1 : Int) ≤ (s.size : Int) := by omega
  have hr : (s.extract 1 s.size).data.toList = Dg.rest s.data.toList := by rw [tail_at]; unfold Dg.rest; rw [if_pos hn]
  have hrs : (s.extract 1 s.size).size = s.size - 1 := by rw [ByteArray.size_extract]; omega
  have hR := restR s (s.extract 1 s.size) (by omega) hr
  have hE := parse_eq s (s.extract 1 s.size) least most hr
  rw [hn] at hE
  rw [hE]
  clear hE hn hr h45
  generalize hgr : s.extract 1 s.size = r at *
  have HGR := Lib.hid hgr
  have hRd := Lib.hid hR.digits
  clear hR
  have b9 : decide ((r.size : Int) < (s.size : Int)) = true := decide_eq_true (by omega)
  have b9' : decide (r.size < s.size) = true := decide_eq_true (by omega)
  cases hd : digitsB r.data.toList with
  | false =>
    rw [hd] at hRd
    rw [if_neg (fun q => by cases q.1)]
    clear hd hrs
    go_enter Tryd.func96, Tryd.ntmps96
    go_wp2_with (go_at_call 84; refine (hRd.out _).mono ?_; rintro e w' ⟨rfl, rfl⟩)
    go_ret2
    exact ⟨rfl, rfl⟩
  | true =>
    have hall := digitsB_all hd
    rw [hd] at hRd
    by_cases hl : r.size ≤ 18
    · have b2 : decide (18 < (r.size : Int)) = false := decide_eq_false (by omega)
      have hpl : Dg.plain r.data.toList 18 = true := by rw [digits_plain, hd, size_list, decide_eq_true hl]; rfl
      have hT18 := Dg.val18 hpl
      generalize hT : Dg.val 0 r.data.toList = T at *
      have HT := Lib.hid hT
      have HL := Lib.hid hall
      clear hT hpl hd hall hrs
      by_cases hz : T = 0
      · have bz : ((T : Int) == 0) = true := by rw [beq_iff_eq]; omega
        rw [if_neg (fun q => q.2.2 ⟨rfl, hz⟩)]
        clear hz
        go_enter Tryd.func96, Tryd.ntmps96
        go_wp2_with (go_at_call 84; refine (hRd.out _).mono ?_; rintro e w' ⟨rfl, rfl⟩)
        go_loop [9, 10] (fun v i => ∃ k V : Nat, k ≤ r.size ∧ i = .int .i64 k ∧ v = .int .i64 V ∧ Hid (Dg.val V (r.data.toList.drop k) = T)) (fun _ i => r.size - (intOf i).toNat)
        case atStart => exact ⟨0, 0, by omega, rfl, rfl, by rw [List.drop_zero]; exact HT⟩
        case round =>
          obtain ⟨k, V, hk, rfl, rfl, hT⟩ := hrel
          by_cases hp : k < r.size
          · obtain ⟨h1, h2⟩ := isD_at HL.out k hp
            have hn : Dg.val (V * 10 + (r[k].toNat - 48)) (r.data.toList.drop (k + 1)) = T := by rw [← val_step r k V hp]; exact hT
            have hge := Dg.val_ge (r.data.toList.drop (k + 1)) (V * 10 + (r[k].toNat - 48))
            rw [hn] at hge
            have HN := Lib.hid hn
            clear hn hT
            have c1 : (48 : Int) ≤ (r[k].toNat : Int) := by omega
            have c2 : (r[k].toNat : Int) ≤ 57 := by omega
            have c3 : (10 : Int) * (V : Int) ≤ 10000000000000000000 - 1 := by omega
            have c4 : (10 : Int) * (V : Int) ≤ 1000000000000000000 := by omega
            go_wp2
            exact ⟨⟨k + 1, V * 10 + (r[k].toNat - 48), by omega, by go_num, int_val (by omega), HN⟩, by show r.size - ((k : Int) + 1).toNat < r.size - (k : Int).toNat; omega⟩
          · have hV : V = T := by
              have q : Dg.val V (r.data.toList.drop k) = T := hT
              rw [List.drop_of_length_le (by rw [size_list]; omega)] at q
              exact q
            subst hV
            clear hT
            go_wp2
            go_ret2
            exact ⟨rfl, rfl⟩
      · have bz : ((T : Int) == 0) = false := by rw [beq_eq_false_iff_ne]; omega
        rw [if_pos ⟨rfl, hl, fun q => hz q.2⟩]
        simp only [if_true]
        clear hz
        have hb18 : (T : Int) ≤ 1000000000000000000 := by omega
        by_cases k1 : -(T : Int) < least
        · rw [if_pos (Or.inl k1)]
          have d1 : decide (-(T : Int) < least) = true := decide_eq_true k1
          have k1' : -(T : Int) < least := k1
          go_enter Tryd.func96, Tryd.ntmps96
          go_wp2_with (go_at_call 84; refine (hRd.out _).mono ?_; rintro e w' ⟨rfl, rfl⟩)
          go_loop [9, 10] (fun v i => ∃ k V : Nat, k ≤ r.size ∧ i = .int .i64 k ∧ v = .int .i64 V ∧ Hid (Dg.val V (r.data.toList.drop k) = T)) (fun _ i => r.size - (intOf i).toNat)
          case atStart => exact ⟨0, 0, by omega, rfl, rfl, by rw [List.drop_zero]; exact HT⟩
          case round =>
            obtain ⟨k, V, hk, rfl, rfl, hT⟩ := hrel
            by_cases hp : k < r.size
            · obtain ⟨h1, h2⟩ := isD_at HL.out k hp
              have hn : Dg.val (V * 10 + (r[k].toNat - 48)) (r.data.toList.drop (k + 1)) = T := by rw [← val_step r k V hp]; exact hT
              have hge := Dg.val_ge (r.data.toList.drop (k + 1)) (V * 10 + (r[k].toNat - 48))
              rw [hn] at hge
              have HN := Lib.hid hn
              clear hn hT
              have c1 : (48 : Int) ≤ (r[k].toNat : Int) := by omega
              have c2 : (r[k].toNat : Int) ≤ 57 := by omega
              have c3 : (10 : Int) * (V : Int) ≤ 10000000000000000000 - 1 := by omega
              have c4 : (10 : Int) * (V : Int) ≤ 1000000000000000000 := by omega
              go_wp2
              exact ⟨⟨k + 1, V * 10 + (r[k].toNat - 48), by omega, by go_num, int_val (by omega), HN⟩, by show r.size - ((k : Int) + 1).toNat < r.size - (k : Int).toNat; omega⟩
            · have hV : V = T := by
                have q : Dg.val V (r.data.toList.drop k) = T := hT
                rw [List.drop_of_length_le (by rw [size_list]; omega)] at q
                exact q
              subst hV
              clear hT
              go_wp2
              go_ret2
              exact ⟨rfl, rfl⟩
        · have d1 : decide (-(T : Int) < least) = false := decide_eq_false k1
          by_cases k2 : most < -(T : Int)
          · rw [if_pos (Or.inr k2)]
            have d2 : decide (most < -(T : Int)) = true := decide_eq_true k2
            go_enter Tryd.func96, Tryd.ntmps96
            go_wp2_with (go_at_call 84; refine (hRd.out _).mono ?_; rintro e w' ⟨rfl, rfl⟩)
            go_loop [9, 10] (fun v i => ∃ k V : Nat, k ≤ r.size ∧ i = .int .i64 k ∧ v = .int .i64 V ∧ Hid (Dg.val V (r.data.toList.drop k) = T)) (fun _ i => r.size - (intOf i).toNat)
            case atStart => exact ⟨0, 0, by omega, rfl, rfl, by rw [List.drop_zero]; exact HT⟩
            case round =>
              obtain ⟨k, V, hk, rfl, rfl, hT⟩ := hrel
              by_cases hp : k < r.size
              · obtain ⟨h1, h2⟩ := isD_at HL.out k hp
                have hn : Dg.val (V * 10 + (r[k].toNat - 48)) (r.data.toList.drop (k + 1)) = T := by rw [← val_step r k V hp]; exact hT
                have hge := Dg.val_ge (r.data.toList.drop (k + 1)) (V * 10 + (r[k].toNat - 48))
                rw [hn] at hge
                have HN := Lib.hid hn
                clear hn hT
                have c1 : (48 : Int) ≤ (r[k].toNat : Int) := by omega
                have c2 : (r[k].toNat : Int) ≤ 57 := by omega
                have c3 : (10 : Int) * (V : Int) ≤ 10000000000000000000 - 1 := by omega
                have c4 : (10 : Int) * (V : Int) ≤ 1000000000000000000 := by omega
                go_wp2
                exact ⟨⟨k + 1, V * 10 + (r[k].toNat - 48), by omega, by go_num, int_val (by omega), HN⟩, by show r.size - ((k : Int) + 1).toNat < r.size - (k : Int).toNat; omega⟩
              · have hV : V = T := by
                  have q : Dg.val V (r.data.toList.drop k) = T := hT
                  rw [List.drop_of_length_le (by rw [size_list]; omega)] at q
                  exact q
                subst hV
                clear hT
                go_wp2
                go_ret2
                exact ⟨rfl, rfl⟩
          · rw [if_neg (fun q => q.elim k1 k2)]
            have d2 : decide (most < -(T : Int)) = false := decide_eq_false k2
            go_enter Tryd.func96, Tryd.ntmps96
            go_wp2_with (go_at_call 84; refine (hRd.out _).mono ?_; rintro e w' ⟨rfl, rfl⟩)
            go_loop [9, 10] (fun v i => ∃ k V : Nat, k ≤ r.size ∧ i = .int .i64 k ∧ v = .int .i64 V ∧ Hid (Dg.val V (r.data.toList.drop k) = T)) (fun _ i => r.size - (intOf i).toNat)
            case atStart => exact ⟨0, 0, by omega, rfl, rfl, by rw [List.drop_zero]; exact HT⟩
            case round =>
              obtain ⟨k, V, hk, rfl, rfl, hT⟩ := hrel
              by_cases hp : k < r.size
              · obtain ⟨h1, h2⟩ := isD_at HL.out k hp
                have hn : Dg.val (V * 10 + (r[k].toNat - 48)) (r.data.toList.drop (k + 1)) = T := by rw [← val_step r k V hp]; exact hT
                have hge := Dg.val_ge (r.data.toList.drop (k + 1)) (V * 10 + (r[k].toNat - 48))
                rw [hn] at hge
                have HN := Lib.hid hn
                clear hn hT
                have c1 : (48 : Int) ≤ (r[k].toNat : Int) := by omega
                have c2 : (r[k].toNat : Int) ≤ 57 := by omega
                have c3 : (10 : Int) * (V : Int) ≤ 10000000000000000000 - 1 := by omega
                have c4 : (10 : Int) * (V : Int) ≤ 1000000000000000000 := by omega
                go_wp2
                exact ⟨⟨k + 1, V * 10 + (r[k].toNat - 48), by omega, by go_num, int_val (by omega), HN⟩, by show r.size - ((k : Int) + 1).toNat < r.size - (k : Int).toNat; omega⟩
              · have hV : V = T := by
                  have q : Dg.val V (r.data.toList.drop k) = T := hT
                  rw [List.drop_of_length_le (by rw [size_list]; omega)] at q
                  exact q
                subst hV
                clear hT
                go_wp2
                go_ret2
                exact ⟨rfl, rfl⟩
    · rw [if_neg (fun q => hl q.2.1)]
      have b2 : decide (18 < (r.size : Int)) = true := decide_eq_true (by omega)
      clear hd hall hrs
      go_enter Tryd.func96, Tryd.ntmps96
      go_wp2_with (go_at_call 84; refine (hRd.out _).mono ?_; rintro e w' ⟨rfl, rfl⟩)
      go_ret2
      exact ⟨rfl, rfl⟩
end Go.Proofs.YtdibkhddhgaghaaDoor.DgR
