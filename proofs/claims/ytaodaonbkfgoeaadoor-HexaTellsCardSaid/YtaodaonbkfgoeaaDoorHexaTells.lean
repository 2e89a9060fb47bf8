/- The walk of the law HexaTells. -/
import Derived.Outline
import Derived.Test.YtaodaonbkfgoeaaDoorHexaBack
import Derived.Test.YtaodaonbkfgoeaaDoorHexaRef
namespace Go.Proofs.YtaodaonbkfgoeaaDoor.HxTells
open Go.RowKit Hxw HxBack
set_option maxHeartbeats 4000000 in
set_option maxRecDepth 100000 in
theorem tells_long (s t : ByteArray) (h : 300 < s.size ∨ 300 < t.size) (w : World) (tab : Tab w) (hs : s.size ≤ 140737488351232) (ht : t.size ≤ 140737488351232) :
    Calls Tryd.prog 3 #[.string s, .string t] w fun e w' => e = .returned (.bool true) ∧ Below w.heap.size w w' := by
  have HT := Lib.hid tab
  clear tab
  by_cases h1 : 300 < s.size
  · have b1 : decide (300 < (s.size : Int)) = true := decide_eq_true (by omega)
    go_enter Tryd.func3, Tryd.ntmps3
    go_wp2_with (go_at_call 5; refine (awake_any _ HT.out).mono ?_; rintro e w' ⟨rfl, hb⟩)
    go_ret
    exact ⟨rfl, hb⟩
  · have h2 : 300 < t.size := by omega
    have b1 : decide (300 < (s.size : Int)) = false := decide_eq_false (by omega)
    have b2 : decide (300 < (t.size : Int)) = true := decide_eq_true (by omega)
    go_enter Tryd.func3, Tryd.ntmps3
    go_wp2_with (go_at_call 5; refine (awake_any _ HT.out).mono ?_; rintro e w' ⟨rfl, hb⟩)
    go_ret
    exact ⟨rfl, hb⟩
set_option maxHeartbeats 4000000 in
set_option maxRecDepth 100000 in
theorem tells_walk (s t : ByteArray) (w : World) (tab : Tab w) (hs : s.size ≤ 140737488351232) (ht : t.size ≤ 140737488351232) :
    Calls Tryd.prog 3 #[.string s, .string t] w fun e w' => e = .returned (.bool true) ∧ Below w.heap.size w w' := by
  by_cases h : 300 < s.size ∨ 300 < t.size
  · exact tells_long s t h w tab hs ht
  · have HT := Lib.hid tab
    clear tab
    have h1 : s.size ≤ 300 := by omega
    have h2 : t.size ≤ 300 := by omega
    have b1 : decide (300 < (s.size : Int)) = false := decide_eq_false (by omega)
    have b2 : decide (300 < (t.size : Int)) = false := decide_eq_false (by omega)
    have h1' : s.size ≤ 1099511627776 := by omega
    have h2' : t.size ≤ 1099511627776 := by omega
    have c1 := fun w => Hxw.parse_any t h2' w
    have c2 := fun w => HxRef.parse_any t h2' w
    have c3 := fun w tab => Hxw.print_any s h1' w tab
    have c4 := fun w => HxRef.print_any s h1' w
    generalize out t = o at *
    generalize err t = c at *
    generalize (⟨(Hx.print s.data.toList).toArray⟩ : ByteArray) = p at *
    have C1 := Lib.hid c1
    have C2 := Lib.hid c2
    have C3 := Lib.hid c3
    have C4 := Lib.hid c4
    clear c1 c2 c3 c4
    go_enter Tryd.func3, Tryd.ntmps3
    go_wp2_with fail
    refine (C1.out _).mono ?_
    rintro e w1 ⟨rfl, hb1⟩
    have HB1 := Lib.hid hb1
    clear hb1
    go_wp2_with fail
    refine (C2.out _).mono ?_
    rintro e w2 ⟨rfl, hb2⟩
    have HB2 := Lib.hid (HxBack.step HB1.out hb2)
    clear hb2
    go_wp2_with fail
    refine (C3.out _ (HT.out.below HB2.out)).mono ?_
    rintro e w3 ⟨rfl, hb3⟩
    have HB3 := Lib.hid (HxBack.step HB2.out hb3)
    clear hb3
    go_wp2_with fail
    refine (C4.out _).mono ?_
    rintro e w4 ⟨rfl, hb4⟩
    have HB4 := Lib.hid (HxBack.step HB3.out hb4)
    clear hb4
    go_wp2_with fail
    refine (awake_any _ (HT.out.below HB4.out)).mono ?_
    rintro e w5 ⟨rfl, hb5⟩
    have HB5 := Lib.hid (HxBack.step HB4.out hb5)
    clear hb5
    go_wp2
    go_ret
    exact ⟨rfl, HB5.out⟩
end Go.Proofs.YtaodaonbkfgoeaaDoor.HxTells
