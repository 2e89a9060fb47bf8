/- sprocketlaw41.HistTexts: the walk. -/
import Derived.Outline
import Derived.Test.YtdibkhddhgaghaaDoorHistRParse
import Derived.Test.YtdibkhddhgaghaaDoorHistRPrint
import Derived.Test.YtdibkhddhgaghaaDoorHistAwake
import Derived.Test.YtdibkhddhgaghaaDoorHistLight
import Derived.Test.YtdibkhddhgaghaaDoorHistOpenB
namespace Go.Proofs.YtdibkhddhgaghaaDoor.Hs
open Go.RowKit
set_option linter.unusedVariables false
set_option linter.unusedSimpArgs false
theorem parse_fits : ∀ (f : Nat) (s : ByteArray) (n : Nat) (out : List CallL), s.size ≤ 2000000 → (∀ c ∈ out, Fit c) → (∀ c ∈ (parseL f s n out).1, Fit c) ∧ (parseL f s n out).1.length ≤ out.length + s.size
  | 0, s, n, out, _, h => by
    show (∀ c ∈ (fin out).1, Fit c) ∧ (fin out).1.length ≤ _
    unfold fin
    split
    · exact ⟨h, by show out.length ≤ _; omega⟩
    · exact ⟨fun c hc => by simp at hc, Nat.zero_le _⟩
  | f + 1, s, n, out, hs, h => by
    unfold parseL
    split
    · unfold fin
      split
      · exact ⟨h, by show out.length ≤ _; omega⟩
      · exact ⟨fun c hc => by simp at hc, Nat.zero_le _⟩
    · split
      · rename_i h0 hc
        simp only [Bool.and_eq_true] at hc
        have hl := cut_len s
        have hl2 := hl.2 hc.1
        have hsz : (⟨(cutL s).2.1.toArray⟩ : ByteArray).size = (cutL s).2.1.length := by show (cutL s).2.1.toArray.size = _; simp
        have hsz1 : (⟨(cutL s).1.toArray⟩ : ByteArray).size = (cutL s).1.length := by show (cutL s).1.toArray.size = _; simp
        have := parse_fits f ⟨(cutL s).2.1.toArray⟩ (n + 1) (out ++ [(callM ⟨(cutL s).1.toArray⟩).1]) (by omega) (fun c hcm => by
          rcases List.mem_append.1 hcm with h1 | h1
          · exact h c h1
          · simp only [List.mem_singleton] at h1
            rw [h1]
            exact call_fit _ (by omega))
        refine ⟨this.1, ?_⟩
        have h2 := this.2
        rw [List.length_append, List.length_singleton] at h2
        omega
      · exact ⟨fun c hc => by simp at hc, Nat.zero_le _⟩
/-- What the law asks of its calls. -/
structure TArg (l : List CV) : Prop where
  len : l.length ≤ maxLen
  few : ∀ q ∈ l, few q ≤ maxLen
  ok : ∀ q ∈ l, OpenB 1048576 q
set_option maxRecDepth 100000 in
set_option maxHeartbeats 8000000 in
theorem texts_any (w : World) (v : Value) (l : List CV) (s : ByteArray) (h : Cls w v l) (ha : TArg l) (hv : Wv w) (hs : s.size ≤ maxLen) :
    Calls Tryd.prog 4 #[v, .string s] w fun e w' => e = .returned (.bool true) ∧ Below w.heap.size w w' := by
  have HL := Lib.hid (light_any w v l h ha.len ha.few)
  have HAW := Lib.hid (fun W (hW : Below w.heap.size w W) => awake_any W (hv.below hW))
  have HV := Lib.hid hv
  have HCL := Lib.hid h
  have HAR := Lib.hid ha
  obtain ⟨A, cap, rfl, hcap, hc⟩ := h
  unfold LightPost at HL
  unfold maxLen at hs
  clear hc ha hv
  go_enter Tryd.func4, Tryd.ntmps4
  go_wp2_with fail
  refine HL.out.mono ?_
  rintro e w1 ⟨b, rfl, hw1, hL⟩
  subst hw1
  cases b with
  | false =>
    go_wp2_with fail
    refine (HAW.out w1 (Below.refl _ _)).mono ?_
    rintro e w2 ⟨rfl, hb2⟩
    have HB2 := Lib.hid hb2
    clear hb2
    go_wp2_with fail
    go_ret
    exact ⟨rfl, HB2.out⟩
  | true =>
  have HLT := Lib.hid (hL rfl)
  clear hL
  by_cases h3 : s.size ≤ 3000
  case neg =>
    have b3 : decide ((3000 : Int) < s.size) = true := decide_eq_true (by omega)
    clear h3
    go_wp2_with fail
    refine (HAW.out w1 (Below.refl _ _)).mono ?_
    rintro e w2 ⟨rfl, hb2⟩
    have HB2 := Lib.hid hb2
    clear hb2
    go_wp2_with fail
    go_ret
    exact ⟨rfl, HB2.out⟩
  have b3 : decide ((3000 : Int) < s.size) = false := decide_eq_false (by omega)
  have HP1 := Lib.hid (fun W (hW : Below w1.heap.size w1 W) => parse_w (HV.out.below hW) s (by omega))
  have HP2 := Lib.hid (fun W => rparse_any W s (by omega))
  unfold ParsePost at HP1 HP2
  obtain ⟨⟨pl, pn, pe⟩, hpm⟩ : ∃ x, parseM s = x := ⟨_, rfl⟩
  have hfit := parse_fits s.size s 0 [] (by omega) (fun c hc => by simp at hc)
  rw [show parseL s.size s 0 [] = parseM s from rfl, hpm] at hfit
  rw [hpm] at HP1 HP2
  dsimp only at HP1 HP2 hfit
  have hpl : pl.length ≤ 3000 := by have := hfit.2; simp at this; omega
  have HFIT := Lib.hid (And.intro hfit.1 hpl)
  have HPO := Lib.hid (show ∀ q ∈ l, Pok q.1 from fun q hq => by
    obtain ⟨f1, f2, f3, f4⟩ := HAR.out.ok q hq
    have := HLT.out.2.1 q hq
    unfold few at this
    exact ⟨f2, f3, by omega, f4⟩)
  have hln : l.length ≤ 100 := by have := HLT.out.1; omega
  have HPR1 := Lib.hid (fun W (hW : Below w1.heap.size w1 W) => print_any W l _ hln (HCL.out.below hW) HPO.out (HV.out.below hW).vars)
  have HPR2 := Lib.hid (fun W (hW : Below w1.heap.size w1 W) => rprint_any W l _ hln (HCL.out.below hW) HPO.out)
  obtain ⟨TX, hTX⟩ : ∃ x, x = rest (l.map (·.1)) := ⟨_, rfl⟩
  rw [← hTX] at HPR2
  rw [show (⟨(printM (l.map (·.1))).toArray⟩ : ByteArray) = TX from hTX.symm] at HPR1
  clear hpm hfit hpl h3 hTX hs hln
  go_wp2_with fail
  refine (HP1.out w1 (Below.refl _ _)).mono ?_
  rintro e w2 ⟨ov, out, rfl, ho, hfst, hb2⟩
  obtain ⟨A2, C2, rfl⟩ := cls_shape ho
  have HO := Lib.hid ho
  have HF := Lib.hid hfst
  have HB2 := Lib.hid hb2
  clear ho hfst hb2
  go_wp2_with fail
  refine (HP2.out w2).mono ?_
  rintro e w3 ⟨ov3, out3, rfl, ho3, hfst3, hb3⟩
  obtain ⟨A3, C3, rfl⟩ := cls_shape ho3
  have HO3 := Lib.hid ho3
  have HF3 := Lib.hid hfst3
  have HB3 := Lib.hid (HB2.out.trans (hb3.mono HB2.out.size))
  have HO2 := Lib.hid (HO.out.below hb3)
  clear ho3 hfst3 hb3
  go_wp2_with fail
  refine (HPR1.out w3 HB3.out).mono ?_
  rintro e w4 ⟨rfl, hb4⟩
  have HB4 := Lib.hid (HB3.out.trans (hb4.mono HB3.out.size))
  have HO24 := Lib.hid (HO2.out.below hb4)
  have HO34 := Lib.hid (HO3.out.below hb4)
  clear hb4
  go_wp2_with fail
  refine (HPR2.out w4 HB4.out).mono ?_
  rintro e w5 ⟨rfl, hb5⟩
  have HB5 := Lib.hid (HB4.out.trans (hb5.mono HB4.out.size))
  have HSM := Lib.hid (same38 w5 _ _ out out3 (HO24.out.below hb5) (HO34.out.below hb5) (by rw [HF.out, HF3.out]) (by
      have h1 := HFIT.out.2
      rw [← HF.out, List.length_map] at h1
      omega) (fun q hq => by
      have := HFIT.out.1 q.1 (by rw [← HF.out]; exact List.mem_map_of_mem hq)
      have := this.1
      omega))
  clear hb5
  go_wp2_with fail
  refine HSM.out.mono ?_
  rintro e w6 ⟨rfl, hb6⟩
  have HB6 := Lib.hid (HB5.out.trans (hb6.mono HB5.out.size))
  clear hb6
  go_wp2_with fail
  refine (HAW.out w6 HB6.out).mono ?_
  rintro e w7 ⟨rfl, hb7⟩
  have HB7 := Lib.hid (HB6.out.trans (hb7.mono HB6.out.size))
  clear hb7
  go_wp2_with fail
  go_ret
  exact ⟨rfl, HB7.out⟩
end Go.Proofs.YtdibkhddhgaghaaDoor.Hs
