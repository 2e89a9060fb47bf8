/- The walks of the law HexaBack and of its 'awake'. -/
import Derived.Test.YtaodaonbkfgoeaaDoorHexaWalk
namespace Go.Proofs.YtaodaonbkfgoeaaDoor.HxBack
open Go.RowKit Hxw
theorem parse_const (t : ByteArray) (o : ByteArray) (c : Int) (ht : t.size ≤ 100) (h : out t = o) (h' : err t = c) (w : World) :
    Calls Tryd.prog 6 #[.string t] w fun e w' => e = .returned (.tuple #[.string o, .int .i64 c]) ∧ Below w.heap.size w w' := by
  subst h; subst h'
  exact parse_any t (by omega) w
theorem print_const (s : ByteArray) (o : ByteArray) (hs : s.size ≤ 100) (h : (⟨(Hx.print s.data.toList).toArray⟩ : ByteArray) = o) (w : World) (tab : Tab w) :
    Calls Tryd.prog 8 #[.string s] w fun e w' => e = .returned (.string o) ∧ Below w.heap.size w w' := by
  subst h
  exact print_any s (by omega) w tab
set_option maxHeartbeats 4000000 in
set_option maxRecDepth 100000 in
theorem awake_any (w : World) (tab : Tab w) : Calls Tryd.prog 5 #[] w fun e w' => e = .returned (.bool true) ∧ Below w.heap.size w w' := by
  have HT := Lib.hid tab
  clear tab
  go_enter Tryd.func5, Tryd.ntmps5
  go_wp2_with fail
  refine (parse_const ⟨#[54, 65]⟩ ⟨#[]⟩ 3 (by decide) (by decide +kernel) (by decide +kernel) _).mono ?_
  rintro e w1 ⟨rfl, hb1⟩
  have HB1 := Lib.hid hb1
  clear hb1
  go_wp2_with fail
  refine (parse_const ⟨#[54, 49, 50, 100]⟩ ⟨#[97, 45]⟩ 0 (by decide) (by decide +kernel) (by decide +kernel) _).mono ?_
  rintro e w2 ⟨rfl, hb2⟩
  have HB2 := Lib.hid (HB1.out.trans (hb2.mono HB1.out.size))
  clear hb2
  go_wp2_with fail
  refine (parse_const ⟨#[]⟩ ⟨#[]⟩ 3 (by decide) (by decide +kernel) (by decide +kernel) _).mono ?_
  rintro e w3 ⟨rfl, hb3⟩
  have HB3 := Lib.hid (HB2.out.trans (hb3.mono HB2.out.size))
  clear hb3
  go_wp2_with fail
  refine (print_const ⟨#[97, 45]⟩ ⟨#[54, 49, 50, 100]⟩ (by decide) (by decide +kernel) _ (HT.out.below HB3.out)).mono ?_
  rintro e w4 ⟨rfl, hb4⟩
  have HB4 := Lib.hid (HB3.out.trans (hb4.mono HB3.out.size))
  clear hb4
  go_wp2_with fail
  refine (print_const ⟨#[]⟩ ⟨#[45]⟩ (by decide) (by decide +kernel) _ (HT.out.below HB4.out)).mono ?_
  rintro e w5 ⟨rfl, hb5⟩
  have HB5 := Lib.hid (HB4.out.trans (hb5.mono HB4.out.size))
  clear hb5
  go_wp2
  go_ret
  exact ⟨rfl, HB5.out⟩

theorem toArray_data (s : ByteArray) : (⟨s.data.toList.toArray⟩ : ByteArray) = s := by
  cases s; simp
theorem parse_printed (s : ByteArray) (hs : s.size ≤ 2000) (w : World) :
    Calls Tryd.prog 6 #[.string ⟨(Hx.print s.data.toList).toArray⟩] w fun e w' => e = .returned (.tuple #[.string s, .int .i64 0]) ∧ Below w.heap.size w w' := by
  have h := out_some (t := ⟨(Hx.print s.data.toList).toArray⟩) (l := s.data.toList) (Hx.parse_print s.data.toList)
  have hz : (⟨(Hx.print s.data.toList).toArray⟩ : ByteArray).size ≤ 1099511627776 := by
    have := Hx.length_print s.data.toList
    rw [size_list] at this
    show (Hx.print s.data.toList).toArray.size ≤ _
    rw [List.size_toArray]; omega
  have := parse_any ⟨(Hx.print s.data.toList).toArray⟩ hz w
  rw [h.1, h.2, toArray_data] at this
  exact this
theorem parse_fails (t : ByteArray) (ht : t.size ≤ 2000) (h : Hx.parse t.data.toList = none) (w : World) :
    Calls Tryd.prog 6 #[.string t] w fun e w' => e = .returned (.tuple #[.string ⟨#[]⟩, .int .i64 3]) ∧ Below w.heap.size w w' := by
  have := parse_any t (by omega) w
  rw [(out_none h).1, (out_none h).2] at this
  exact this
theorem parse_gives (t : ByteArray) (l : List UInt8) (ht : t.size ≤ 2000) (h : Hx.parse t.data.toList = some l) (w : World) :
    Calls Tryd.prog 6 #[.string t] w fun e w' => e = .returned (.tuple #[.string ⟨l.toArray⟩, .int .i64 0]) ∧ Below w.heap.size w w' := by
  have := parse_any t (by omega) w
  rw [(out_some h).1, (out_some h).2] at this
  exact this
theorem print_parsed (t : ByteArray) (l : List UInt8) (ht : t.size ≤ 2000) (h : Hx.parse t.data.toList = some l) (w : World) (tab : Tab w) :
    Calls Tryd.prog 8 #[.string ⟨l.toArray⟩] w fun e w' => e = .returned (.string t) ∧ Below w.heap.size w w' := by
  have hl := Hx.length_parse _ _ h
  rw [size_list] at hl
  have := print_any ⟨l.toArray⟩ (by show l.toArray.size ≤ _; rw [List.size_toArray]; omega) w tab
  rw [show (⟨l.toArray⟩ : ByteArray).data.toList = l from rfl, Hx.print_parse _ _ h, toArray_data] at this
  exact this
theorem step {w w1 w2 : World} (a : Below w.heap.size w w1) (b : Below w1.heap.size w1 w2) : Below w.heap.size w w2 := a.trans (b.mono a.size)
set_option maxHeartbeats 4000000 in
set_option maxRecDepth 100000 in
theorem back_long (s t : ByteArray) (hs : s.size ≤ 140737488351232) (ht : t.size ≤ 140737488351232) (h : 2000 < s.size ∨ 2000 < t.size) (w : World) (tab : Tab w) :
    Calls Tryd.prog 4 #[.string s, .string t] w fun e w' => e = .returned (.bool true) ∧ Below w.heap.size w w' := by
  have HT := Lib.hid tab
  clear tab
  by_cases h1 : 2000 < s.size
  · have b1 : decide (2000 < (s.size : Int)) = true := decide_eq_true (by omega)
    go_enter Tryd.func4, Tryd.ntmps4
    go_wp2_with (go_at_call 5; refine (awake_any _ HT.out).mono ?_; rintro e w' ⟨rfl, hb⟩)
    go_ret
    exact ⟨rfl, hb⟩
  · have h2 : 2000 < t.size := by omega
    have b1 : decide (2000 < (s.size : Int)) = false := decide_eq_false (by omega)
    have b2 : decide (2000 < (t.size : Int)) = true := decide_eq_true (by omega)
    go_enter Tryd.func4, Tryd.ntmps4
    go_wp2_with (go_at_call 5; refine (awake_any _ HT.out).mono ?_; rintro e w' ⟨rfl, hb⟩)
    go_ret
    exact ⟨rfl, hb⟩
set_option maxHeartbeats 4000000 in
set_option maxRecDepth 100000 in
theorem back_any (s t : ByteArray) (hs : s.size ≤ 140737488351232) (ht : t.size ≤ 140737488351232) (w : World) (tab : Tab w) :
    Calls Tryd.prog 4 #[.string s, .string t] w fun e w' => e = .returned (.bool true) ∧ Below w.heap.size w w' := by
  by_cases h : 2000 < s.size ∨ 2000 < t.size
  · exact back_long s t hs ht h w tab
  · have HT := Lib.hid tab
    clear tab
    have h1 : s.size ≤ 2000 := by omega
    have h2 : t.size ≤ 2000 := by omega
    have b1 : decide (2000 < (s.size : Int)) = false := decide_eq_false (by omega)
    have b2 : decide (2000 < (t.size : Int)) = false := decide_eq_false (by omega)
    have HP := Lib.hid (print_any s (by omega) w HT.out)
    cases hp : Hx.parse t.data.toList with
    | none =>
      have HN := Lib.hid hp
      clear hp
      go_enter Tryd.func4, Tryd.ntmps4
      go_wp2_with fail
      refine HP.out.mono ?_
      rintro e w1 ⟨rfl, hb1⟩
      have HB1 := Lib.hid hb1
      clear hb1
      go_wp2_with fail
      refine (parse_printed s h1 _).mono ?_
      rintro e w2 ⟨rfl, hb2⟩
      have HB2 := Lib.hid (step HB1.out hb2)
      clear hb2
      go_wp2_with fail
      refine (parse_fails t h2 HN.out _).mono ?_
      rintro e w3 ⟨rfl, hb3⟩
      have HB3 := Lib.hid (step HB2.out hb3)
      clear hb3
      go_wp2_with fail
      refine (awake_any _ (HT.out.below HB3.out)).mono ?_
      rintro e w4 ⟨rfl, hb4⟩
      have HB4 := Lib.hid (step HB3.out hb4)
      clear hb4
      go_wp2
      go_ret
      exact ⟨rfl, HB4.out⟩
    | some l =>
      have HN := Lib.hid hp
      clear hp
      go_enter Tryd.func4, Tryd.ntmps4
      go_wp2_with fail
      refine HP.out.mono ?_
      rintro e w1 ⟨rfl, hb1⟩
      have HB1 := Lib.hid hb1
      clear hb1
      go_wp2_with fail
      refine (parse_printed s h1 _).mono ?_
      rintro e w2 ⟨rfl, hb2⟩
      have HB2 := Lib.hid (step HB1.out hb2)
      clear hb2
      go_wp2_with fail
      refine (parse_gives t l h2 HN.out _).mono ?_
      rintro e w3 ⟨rfl, hb3⟩
      have HB3 := Lib.hid (step HB2.out hb3)
      clear hb3
      go_wp2_with fail
      refine (print_parsed t l h2 HN.out _ (HT.out.below HB3.out)).mono ?_
      rintro e w4 ⟨rfl, hb4⟩
      have HB4 := Lib.hid (step HB3.out hb4)
      clear hb4
      go_wp2_with fail
      refine (awake_any _ (HT.out.below HB4.out)).mono ?_
      rintro e w5 ⟨rfl, hb5⟩
      have HB5 := Lib.hid (step HB4.out hb5)
      clear hb5
      go_wp2
      go_ret
      exact ⟨rfl, HB5.out⟩
theorem back_walk (s t : ByteArray) (w : World) (tab : Tab w) (hs : s.size ≤ 140737488351232) (ht : t.size ≤ 140737488351232) :
    Calls Tryd.prog 4 #[.string s, .string t] w fun e w' => e = .returned (.bool true) ∧ Below w.heap.size w w' := back_any s t hs ht w tab
end Go.Proofs.YtaodaonbkfgoeaaDoor.HxBack
