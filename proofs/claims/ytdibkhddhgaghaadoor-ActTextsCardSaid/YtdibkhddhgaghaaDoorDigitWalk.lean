/- The walks of the package digit: what plain, Print, Show, Parse and Word return, for every text. -/
import Derived.Test.YtdibkhddhgaghaaDoorDigitFmt
import Derived.ScopeJumps
import Derived.WalkMore
import Derived.WalkSpells
import Derived.Laws.Strings
namespace Go.Proofs.YtdibkhddhgaghaaDoor.DgW
open Go.RowKit DgF
theorem size_list (t : ByteArray) : t.data.toList.length = t.size := by simp
theorem digit_any (c : UInt8) (w : World) : Calls Tryd.prog 131 #[.int .u8 (c.toNat : Int)] w fun e w' => e = .returned (.bool (Dg.isD c)) ∧ w = w' := by
  have hc := c.toNat_lt
  have hd : decide (((c.toNat : Int) - 48) % 256 < 10) = Dg.isD c := by
    unfold Dg.isD
    rw [decide_eq_decide]; omega
  have HD := Lib.hid hd
  clear hd
  go_enter Tryd.func131, Tryd.ntmps131
  go_wp2
  go_ret
  exact ⟨by rw [← HD.out]; rfl, rfl⟩
theorem drop_at (s : ByteArray) (k : Nat) (h : k < s.size) : s.data.toList.drop k = s[k] :: s.data.toList.drop (k + 1) := by
  rw [List.drop_eq_getElem_cons (by simpa using h)]; rfl
def PJ (s : ByteArray) (m : Nat) (w : World) (a' : Act) (w' : World) : Prop :=
  w' = w ∧ ∃ (k : Nat) (u7 u8 u9 u10 u11 u12 u13 u14 u15 u16 u17 u18 u19 u20 u21 u22 u23 u24 u25 u26 u27 u28 u29 u30 u31 u32 u33 u34 u35 u36 : Value), a' = { tmps := #[.string s, .int .i64 m, undef, undef, .bool false, .func (.func 131) #[] #[], .int .i64 k, u7, u8, u9, u10, u11, u12, u13, u14, u15, u16, u17, u18, u19, u20, u21, u22, u23, u24, u25, u26, u27, u28, u29, u30, u31, u32, u33, u34, u35, u36], defers := [] } ∧ k < s.size ∧ Hid (s.data.toList.all Dg.isD = (s.data.toList.drop k).all Dg.isD)
set_option maxHeartbeats 1000000 in
set_option maxRecDepth 1000000 in
theorem plain_loop (s : ByteArray) (m : Nat) (hm : m ≤ 1000) (hs : 0 < s.size) (hl : s.size ≤ m) (h0 : ¬ (s[0].toNat = 48 ∧ 1 < s.size)) (w : World) :
    Calls Tryd.prog 115 #[.string s, .int .i64 m] w fun e w' => e = .returned (.bool (s.data.toList.all Dg.isD)) ∧ w = w' := by
  have b0 : s.toList.isEmpty = false := by
    rw [ByteArray.toList_eq]
    cases e : s.data.toList with
    | nil => have := size_list s; rw [e] at this; simp at this; omega
    | cons _ _ => rfl
  have b1 : decide ((m : Int) < (s.size : Int)) = false := decide_eq_false (by omega)
  have b1' : decide (m < s.size) = false := decide_eq_false (by omega)
  have H0 := Lib.hid h0
  have hall0 : s.data.toList.all Dg.isD = (s.data.toList.drop 0).all Dg.isD := by rw [List.drop_zero]
  have HA0 := Lib.hid hall0
  clear h0 hall0
  have hm' : (m : Int) ≤ 1000 := by omega
  have key : ∀ (k : Nat) (u7 u8 u9 u10 u11 u12 u13 u14 u15 u16 u17 u18 u19 u20 u21 u22 u23 u24 u25 u26 u27 u28 u29 u30 u31 u32 u33 u34 u35 u36 : Value), k < s.size → s.data.toList.all Dg.isD = (s.data.toList.drop k).all Dg.isD → True := fun _ _ _ _ _ _ _ _ _ _ _ _ _ _ _ _ _ _ _ _ _ _ _ _ _ _ _ _ _ _ _ _ _ => trivial
  clear key
  by_cases h48 : s[0].toNat = 48
  all_goals
    first
      | (have b2 : ((s[0].toNat : Int) == 48) = true := by rw [beq_iff_eq]; omega)
      | (have b2 : ((s[0].toNat : Int) == 48) = false := by rw [beq_eq_false_iff_ne]; omega)
    have b3 : s[0].toNat = 48 → decide (1 < (s.size : Int)) = false := fun h => decide_eq_false (by have := H0.out; omega)
    first
      | (have b4 := b3 h48)
      | skip
    clear b3 h48
    go_enter Tryd.func115, Tryd.ntmps115
    go_wp2
    refine wp_scope_jumps 0 (PJ s m w) (fun a' _ => s.size - (intOf (a'.tmps.getD 6 undef)).toNat) rfl ?_ ?_
    · have hz : s.data.toList.drop 0 = s[0] :: s.data.toList.drop 1 := drop_at s 0 hs
      by_cases hd : Dg.isD s[0] = true
      · have HN := Lib.hid (show s.data.toList.all Dg.isD = (s.data.toList.drop 1).all Dg.isD by rw [HA0.out, hz, List.all_cons, hd, Bool.true_and])
        have HD := Lib.hid hd
        clear hd hz
        by_cases hlast : 1 < s.size
        · first
            | (exfalso; exact absurd (decide_eq_true (show (1 : Int) < (s.size : Int) by omega)) (by rw [b4]; decide))
            | (go_wp2
               go_step3
               go_wp2_with (go_at_call 131; refine (digit_any s[0] _).mono ?_; rw [HD.out]; rintro e w' ⟨rfl, rfl⟩)
               go_step3
               exact ⟨rfl, rfl, 1, _, _, _, _, _, _, _, _, _, _, _, _, _, _, _, _, _, _, _, _, _, _, _, _, _, _, _, _, _, _, rfl, hlast, HN⟩)
        · have HE := Lib.hid (show s.data.toList.all Dg.isD = true by rw [HN.out, List.drop_of_length_le (by rw [size_list]; omega)]; rfl)
          go_wp2
          go_step3
          go_wp2_with (go_at_call 131; refine (digit_any s[0] _).mono ?_; rw [HD.out]; rintro e w' ⟨rfl, rfl⟩)
          simp only [Exit.jump]
          go_ret
          exact ⟨by rw [HE.out]; rfl, rfl⟩
      · have hd' : Dg.isD s[0] = false := by simpa using hd
        have HE := Lib.hid (show s.data.toList.all Dg.isD = false by rw [HA0.out, hz, List.all_cons, hd', Bool.false_and])
        have HD := Lib.hid hd'
        clear hd hd' hz
        go_wp2
        go_step3
        go_wp2_with (go_at_call 131; refine (digit_any s[0] _).mono ?_; rw [HD.out]; rintro e w' ⟨rfl, rfl⟩)
        simp only [Exit.jump]
        go_ret
        exact ⟨by rw [HE.out]; rfl, rfl⟩
    · rintro a' w' ⟨rfl, k, u7, u8, u9, u10, u11, u12, u13, u14, u15, u16, u17, u18, u19, u20, u21, u22, u23, u24, u25, u26, u27, u28, u29, u30, u31, u32, u33, u34, u35, u36, rfl, hk, hka⟩
      have HA := Lib.hid hka
      clear hka
      have hz : s.data.toList.drop k = s[k] :: s.data.toList.drop (k + 1) := drop_at s k hk
      by_cases hd : Dg.isD s[k] = true
      · have HN := Lib.hid (show s.data.toList.all Dg.isD = (s.data.toList.drop (k + 1)).all Dg.isD by rw [HA.out, hz, List.all_cons, hd, Bool.true_and])
        have HD := Lib.hid hd
        clear hd hz
        by_cases hlast : k + 1 < s.size
        · have d1 : decide ((k : Int) + 1 < (s.size : Int)) = true := decide_eq_true (by omega)
          go_wp2_with (go_at_call 131; refine (digit_any s[k] _).mono ?_; rw [HD.out]; rintro e w' ⟨rfl, rfl⟩)
          go_step3
          exact ⟨rfl, ⟨rfl, k + 1, _, _, _, _, _, _, _, _, _, _, _, _, _, _, _, _, _, _, _, _, _, _, _, _, _, _, _, _, _, _, rfl, hlast, HN⟩, by show s.size - ((k : Int) + 1).toNat < s.size - (k : Int).toNat; omega⟩
        · have d1 : decide ((k : Int) + 1 < (s.size : Int)) = false := decide_eq_false (by omega)
          have HE := Lib.hid (show s.data.toList.all Dg.isD = true by rw [HN.out, List.drop_of_length_le (by rw [size_list]; omega)]; rfl)
          go_wp2_with (go_at_call 131; refine (digit_any s[k] _).mono ?_; rw [HD.out]; rintro e w' ⟨rfl, rfl⟩)
          simp only [Exit.jump]
          go_ret
          exact ⟨by rw [HE.out]; rfl, rfl⟩
      · have hd' : Dg.isD s[k] = false := by simpa using hd
        have HE := Lib.hid (show s.data.toList.all Dg.isD = false by rw [HA.out, hz, List.all_cons, hd', Bool.false_and])
        have HD := Lib.hid hd'
        clear hd hd' hz
        go_wp2_with (go_at_call 131; refine (digit_any s[k] _).mono ?_; rw [HD.out]; rintro e w' ⟨rfl, rfl⟩)
        simp only [Exit.jump]
        go_ret
        exact ⟨by rw [HE.out]; rfl, rfl⟩
end Go.Proofs.YtdibkhddhgaghaaDoor.DgW
