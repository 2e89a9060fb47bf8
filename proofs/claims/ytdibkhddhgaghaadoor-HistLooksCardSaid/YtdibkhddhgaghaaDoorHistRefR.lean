/- ref41.Right, walked. -/
import Derived.Outline
import Derived.Test.YtdibkhddhgaghaaDoorHistMay
import Derived.Test.YtdibkhddhgaghaaDoorHistRefP
import Derived.Test.YtdibkhddhgaghaaDoorHistRight
namespace Go.Proofs.YtdibkhddhgaghaaDoor.Hs
open Go.RowKit Bq
set_option linter.unusedVariables false
set_option linter.unusedSimpArgs false
set_option maxRecDepth 100000 in
set_option maxHeartbeats 16000000 in
theorem right_ref (w : World) (v : Value) (l : List CV) (h : Cls w v l) (hn : l.length ≤ 1000000) (hk : ∀ q ∈ l, q.1.reply.pairs.length ≤ 100000000) :
    Calls Tryd.prog 24 #[v] w fun e w' => e = .returned (.bool (rightM l)) ∧ Below w.heap.size w w' := by
  have HK := Lib.hid hk
  obtain ⟨A, cap, rfl, hcap, hc⟩ := h
  have HC := Lib.hid hc
  clear hc hk
  go_enter Tryd.func24, Tryd.ntmps24
  go_wp2_with fail
  go_loopw [3] (fun iv wr => ∃ i : Nat, i ≤ l.length ∧ iv = .int .i64 i ∧ goesUp l i = true ∧ Below w.heap.size w wr) (fun iv _ => l.length - (intOf iv).toNat)
  case atStart => exact ⟨0, Nat.zero_le _, rfl, rfl, Below.refl _ _⟩
  case round =>
    obtain ⟨i, hi, rfl, hgo, hB⟩ := hrel
    have HB := Lib.hid hB
    have HGO := Lib.hid hgo
    clear hB hgo
    by_cases hil : i < l.length
    · have HLT := Lib.hid hil
      obtain ⟨b, z, hAz⟩ : ∃ b z, A = some ⟨b, z, none⟩ := by
        obtain ⟨_, b, z, e, _⟩ := HC.out i _ (List.getElem?_eq_getElem hil)
        exact ⟨b, z, e⟩
      subst hAz
      have HCELL := Lib.hid (show ∀ W, Below w.heap.size w W → ∀ j q, l[j]? = some q → ∀ t u, (callC q.1 q.2)[t]? = some u → W.cell? ⟨b, z + j * 15 + t, none⟩ = some u from fun W hW j q hq t u hu => by
        obtain ⟨_, b', z', e, hb', hc'⟩ := HC.out j q hq
        injection e with e
        injection e with e1 e2
        subst e1; subst e2
        exact (hW.cell (p := ⟨b, z + j * 15 + t, none⟩) hb').trans (hc' t u hu))
      obtain ⟨⟨⟨xat, xai, ⟨xak, xay, xav, xao⟩, xab, xae, xad, ⟨xar, xah, xaf, xau, xan, xap⟩⟩, xaw⟩, hqxa⟩ : ∃ q, l[i]? = some q := ⟨_, List.getElem?_eq_getElem (by omega)⟩
      obtain ⟨xaA, xac, hwxa⟩ := prs_shape (HC.out _ _ hqxa).1
      dsimp only at hwxa
      subst hwxa
      have HQxa := Lib.hid hqxa
      clear hqxa
      obtain ⟨ab, hab⟩ : ∃ x, alone ⟨xat, xai, ⟨xak, xay, xav, xao⟩, xab, xae, xad, ⟨xar, xah, xaf, xau, xan, xap⟩⟩ = x := ⟨_, rfl⟩
      have HAL := Lib.hid hab
      have HPP := Lib.hid (HC.out _ _ HQxa.out).1
      have hkq := HK.out _ (List.mem_of_getElem? HQxa.out)
      dsimp only at HPP hkq
      have HKQ := Lib.hid hkq
      have CA := Lib.hid (fun p : BelowBy wr => calls_bel (p := p) (may_ref p.w ⟨xat, xai, ⟨xak, xay, xav, xao⟩, xab, xae, xad, ⟨xar, xah, xaf, xau, xan, xap⟩⟩ (.slice xaA xap.length xac) (HPP.out.below (HB.out.trans (p.hb.mono HB.out.size))) HKQ.out))
      unfold encC callC at CA
      dsimp only at CA
      rw [hab] at CA
      clear hab hkq
      cases ab with
      | false =>
        as_aux_lemma =>
          have xaF0 : ∀ p : BelowBy wr, World.cell? p.w ⟨b, z + i * 15, none⟩ = some (.int .i64 xat) := fun p => HCELL.out p.w (HB.out.trans (p.hb.mono HB.out.size)) i _ HQxa.out 0 _ rfl
          have xaF1 : ∀ p : BelowBy wr, World.cell? p.w ⟨b, z + i * 15 + 1, none⟩ = some (.int .i64 xai) := fun p => HCELL.out p.w (HB.out.trans (p.hb.mono HB.out.size)) i _ HQxa.out 1 _ rfl
          have xaF2 : ∀ p : BelowBy wr, World.cell? p.w ⟨b, z + i * 15 + 2, none⟩ = some (.int .i64 xak) := fun p => HCELL.out p.w (HB.out.trans (p.hb.mono HB.out.size)) i _ HQxa.out 2 _ rfl
          have xaF3 : ∀ p : BelowBy wr, World.cell? p.w ⟨b, z + i * 15 + 3, none⟩ = some (.string xay) := fun p => HCELL.out p.w (HB.out.trans (p.hb.mono HB.out.size)) i _ HQxa.out 3 _ rfl
          have xaF4 : ∀ p : BelowBy wr, World.cell? p.w ⟨b, z + i * 15 + 4, none⟩ = some (.string xav) := fun p => HCELL.out p.w (HB.out.trans (p.hb.mono HB.out.size)) i _ HQxa.out 4 _ rfl
          have xaF5 : ∀ p : BelowBy wr, World.cell? p.w ⟨b, z + i * 15 + 5, none⟩ = some (.string xao) := fun p => HCELL.out p.w (HB.out.trans (p.hb.mono HB.out.size)) i _ HQxa.out 5 _ rfl
          have xaF6 : ∀ p : BelowBy wr, World.cell? p.w ⟨b, z + i * 15 + 6, none⟩ = some (.int .i64 xab) := fun p => HCELL.out p.w (HB.out.trans (p.hb.mono HB.out.size)) i _ HQxa.out 6 _ rfl
          have xaF7 : ∀ p : BelowBy wr, World.cell? p.w ⟨b, z + i * 15 + 7, none⟩ = some (.int .i64 xae) := fun p => HCELL.out p.w (HB.out.trans (p.hb.mono HB.out.size)) i _ HQxa.out 7 _ rfl
          have xaF8 : ∀ p : BelowBy wr, World.cell? p.w ⟨b, z + i * 15 + 8, none⟩ = some (.bool xad) := fun p => HCELL.out p.w (HB.out.trans (p.hb.mono HB.out.size)) i _ HQxa.out 8 _ rfl
          have xaF9 : ∀ p : BelowBy wr, World.cell? p.w ⟨b, z + i * 15 + 9, none⟩ = some (.int .i64 xar) := fun p => HCELL.out p.w (HB.out.trans (p.hb.mono HB.out.size)) i _ HQxa.out 9 _ rfl
          have xaF10 : ∀ p : BelowBy wr, World.cell? p.w ⟨b, z + i * 15 + 10, none⟩ = some (.bool xah) := fun p => HCELL.out p.w (HB.out.trans (p.hb.mono HB.out.size)) i _ HQxa.out 10 _ rfl
          have xaF11 : ∀ p : BelowBy wr, World.cell? p.w ⟨b, z + i * 15 + 11, none⟩ = some (.bool xaf) := fun p => HCELL.out p.w (HB.out.trans (p.hb.mono HB.out.size)) i _ HQxa.out 11 _ rfl
          have xaF12 : ∀ p : BelowBy wr, World.cell? p.w ⟨b, z + i * 15 + 12, none⟩ = some (.string xau) := fun p => HCELL.out p.w (HB.out.trans (p.hb.mono HB.out.size)) i _ HQxa.out 12 _ rfl
          have xaF13 : ∀ p : BelowBy wr, World.cell? p.w ⟨b, z + i * 15 + 13, none⟩ = some (.int .i64 xan) := fun p => HCELL.out p.w (HB.out.trans (p.hb.mono HB.out.size)) i _ HQxa.out 13 _ rfl
          have xaF14 : ∀ p : BelowBy wr, World.cell? p.w ⟨b, z + i * 15 + 14, none⟩ = some (.slice xaA xap.length xac) := fun p => HCELL.out p.w (HB.out.trans (p.hb.mono HB.out.size)) i _ HQxa.out 14 _ rfl
          go_wp2_with fail
          refine wp_region_bel (by kernel_rfl) (by kernel_rfl) ?_
          repeat (first | go_big_quiet_step ((go_at_call 63; with_reducible exact CA.out _)) | quiet_step ((go_at_call 63; with_reducible exact CA.out _)))
          refine wpQuiet_nil ?_
          intro w5 hw5
          obtain ⟨⟨w5', hb5⟩, hw5'⟩ := hw5
          dsimp only at hw5'
          subst hw5'
          have HB5 := Lib.hid (HB.out.trans (hb5.mono HB.out.size))
          clear hb5
          clear xaF0 xaF1 xaF2 xaF3 xaF4 xaF5 xaF6 xaF7 xaF8 xaF9 xaF10 xaF11 xaF12 xaF13 xaF14
          go_wp2_with fail
          go_ret
          refine ⟨?_, HB5.out⟩
          have hno : rightM l = false := goesUp_no HQxa.out (by unfold goes; rw [HAL.out]; rfl) HLT.out
          rw [hno]; rfl
      | true =>
        as_aux_lemma =>
          cases i with
          | zero =>
            as_aux_lemma =>
              have HPV0 := Lib.hid (show prevOk l 0 xab = true from rfl)
              have HCZ := Lib.hid (show ∀ W, Below w.heap.size w W → ∀ t u, (callC ⟨xat, xai, ⟨xak, xay, xav, xao⟩, xab, xae, xad, ⟨xar, xah, xaf, xau, xan, xap⟩⟩ (.slice xaA xap.length xac))[t]? = some u → W.cell? ⟨b, z + t, none⟩ = some u from fun W hW t u hu => by
                have h := HCELL.out W hW 0 _ HQxa.out t u hu
                rw [Nat.zero_mul, Nat.add_zero] at h
                exact h)
              have xaF0 : ∀ p : BelowBy wr, World.cell? p.w ⟨b, z, none⟩ = some (.int .i64 xat) := fun p => HCZ.out p.w (HB.out.trans (p.hb.mono HB.out.size)) 0 _ rfl
              have xaF1 : ∀ p : BelowBy wr, World.cell? p.w ⟨b, z + 1, none⟩ = some (.int .i64 xai) := fun p => HCZ.out p.w (HB.out.trans (p.hb.mono HB.out.size)) 1 _ rfl
              have xaF2 : ∀ p : BelowBy wr, World.cell? p.w ⟨b, z + 2, none⟩ = some (.int .i64 xak) := fun p => HCZ.out p.w (HB.out.trans (p.hb.mono HB.out.size)) 2 _ rfl
              have xaF3 : ∀ p : BelowBy wr, World.cell? p.w ⟨b, z + 3, none⟩ = some (.string xay) := fun p => HCZ.out p.w (HB.out.trans (p.hb.mono HB.out.size)) 3 _ rfl
              have xaF4 : ∀ p : BelowBy wr, World.cell? p.w ⟨b, z + 4, none⟩ = some (.string xav) := fun p => HCZ.out p.w (HB.out.trans (p.hb.mono HB.out.size)) 4 _ rfl
              have xaF5 : ∀ p : BelowBy wr, World.cell? p.w ⟨b, z + 5, none⟩ = some (.string xao) := fun p => HCZ.out p.w (HB.out.trans (p.hb.mono HB.out.size)) 5 _ rfl
              have xaF6 : ∀ p : BelowBy wr, World.cell? p.w ⟨b, z + 6, none⟩ = some (.int .i64 xab) := fun p => HCZ.out p.w (HB.out.trans (p.hb.mono HB.out.size)) 6 _ rfl
              have xaF7 : ∀ p : BelowBy wr, World.cell? p.w ⟨b, z + 7, none⟩ = some (.int .i64 xae) := fun p => HCZ.out p.w (HB.out.trans (p.hb.mono HB.out.size)) 7 _ rfl
              have xaF8 : ∀ p : BelowBy wr, World.cell? p.w ⟨b, z + 8, none⟩ = some (.bool xad) := fun p => HCZ.out p.w (HB.out.trans (p.hb.mono HB.out.size)) 8 _ rfl
              have xaF9 : ∀ p : BelowBy wr, World.cell? p.w ⟨b, z + 9, none⟩ = some (.int .i64 xar) := fun p => HCZ.out p.w (HB.out.trans (p.hb.mono HB.out.size)) 9 _ rfl
              have xaF10 : ∀ p : BelowBy wr, World.cell? p.w ⟨b, z + 10, none⟩ = some (.bool xah) := fun p => HCZ.out p.w (HB.out.trans (p.hb.mono HB.out.size)) 10 _ rfl
              have xaF11 : ∀ p : BelowBy wr, World.cell? p.w ⟨b, z + 11, none⟩ = some (.bool xaf) := fun p => HCZ.out p.w (HB.out.trans (p.hb.mono HB.out.size)) 11 _ rfl
              have xaF12 : ∀ p : BelowBy wr, World.cell? p.w ⟨b, z + 12, none⟩ = some (.string xau) := fun p => HCZ.out p.w (HB.out.trans (p.hb.mono HB.out.size)) 12 _ rfl
              have xaF13 : ∀ p : BelowBy wr, World.cell? p.w ⟨b, z + 13, none⟩ = some (.int .i64 xan) := fun p => HCZ.out p.w (HB.out.trans (p.hb.mono HB.out.size)) 13 _ rfl
              have xaF14 : ∀ p : BelowBy wr, World.cell? p.w ⟨b, z + 14, none⟩ = some (.slice xaA xap.length xac) := fun p => HCZ.out p.w (HB.out.trans (p.hb.mono HB.out.size)) 14 _ rfl
              go_wp2_with fail
              refine wp_region_bel (by kernel_rfl) (by kernel_rfl) ?_
              repeat (first | go_big_quiet_step ((go_at_call 63; with_reducible exact CA.out _)) | quiet_step ((go_at_call 63; with_reducible exact CA.out _)))
              refine wpQuiet_nil ?_
              intro w5 hw5
              obtain ⟨⟨w5', hb5⟩, hw5'⟩ := hw5
              dsimp only at hw5'
              subst hw5'
              have HB5 := Lib.hid (HB.out.trans (hb5.mono HB.out.size))
              clear hb5
              clear xaF0 xaF1 xaF2 xaF3 xaF4 xaF5 xaF6 xaF7 xaF8 xaF9 xaF10 xaF11 xaF12 xaF13 xaF14
              have HPV : prevOk l 0 xab = true := HPV0.out
              have HGE := Lib.hid (show goes l 0 ⟨xat, xai, ⟨xak, xay, xav, xao⟩, xab, xae, xad, ⟨xar, xah, xaf, xau, xan, xap⟩⟩ = (befAll l 0 ⟨xat, xai, ⟨xak, xay, xav, xao⟩, xab, xae, xad, ⟨xar, xah, xaf, xau, xan, xap⟩⟩ && decide (xai = cntT l 0 xat)) from by
                rw [← goesR_eq (Nat.le_of_lt HLT.out) HGO.out]; unfold goesR; dsimp only; rw [HAL.out, HPV]; rfl)
              clear HPV
              have HB := Lib.hid HB5.out
              clear HB5
              go_wp2_with fail
              go_loopw [4, 5] (fun nv kv wr => ∃ k : Nat, k ≤ 0 ∧ kv = .int .i64 k ∧ nv = .int .i64 ((cntT l k xat : Nat) : Int) ∧ befAll l k ⟨xat, xai, ⟨xak, xay, xav, xao⟩, xab, xae, xad, ⟨xar, xah, xaf, xau, xan, xap⟩⟩ = true ∧ Below w.heap.size w wr) (fun _ kv _ => 0 - (intOf kv).toNat)
              case atStart => exact ⟨0, Nat.zero_le _, rfl, rfl, rfl, HB.out⟩
              case round =>
                obtain ⟨k, hk, rfl, rfl, hba, hB⟩ := hrel
                have HB := Lib.hid hB
                have HBA := Lib.hid hba
                have hcl := cntT_le l xat k
                obtain ⟨ck, hck⟩ : ∃ x, x = cntT l k xat := ⟨_, rfl⟩
                rw [← hck] at hcl ⊢
                have HCK := Lib.hid hck
                clear hB hba hck
                by_cases hkl : k < 0
                · as_aux_lemma =>
                    exact absurd hkl (Nat.not_lt_zero _)
                · as_aux_lemma =>
                    have hke : k = 0 := by omega
                    have HCK2 := Lib.hid (show ck = cntT l 0 xat from by rw [HCK.out, hke])
                    have HBA2 := Lib.hid (show befAll l 0 ⟨xat, xai, ⟨xak, xay, xav, xao⟩, xab, xae, xad, ⟨xar, xah, xaf, xau, xan, xap⟩⟩ = true from by rw [← hke]; exact HBA.out)
                    clear hke
                    have f1 : wr.cell? ⟨b, z + 1, none⟩ = some (.int .i64 xai) := HCZ.out wr HB.out 1 _ rfl
                    by_cases hix : xai = (ck : Int)
                    · as_aux_lemma =>
                        have b0 : (xai != (ck : Int)) = false := by simpa using hix
                        have HIX := Lib.hid hix
                        clear hix
                        go_wp2_with fail
                        exact ⟨⟨0 + 1, by have := HLT.out; omega, by go_num, by
                          show (goesUp l 0 && match l[0]? with | some q => goes l 0 q.1 | none => true) = true
                          rw [HQxa.out, HGO.out]
                          dsimp only
                          rw [HGE.out, HBA2.out, ← HCK2.out, decide_eq_true HIX.out]; rfl, HB.out⟩, by show l.length - ((0 : Int) + 1).toNat < l.length - ((0 : Int)).toNat; have := HLT.out; omega⟩
                    · as_aux_lemma =>
                        have b0 : (xai != (ck : Int)) = true := by simpa using hix
                        have HIX := Lib.hid hix
                        clear hix
                        go_wp2_with fail
                        go_ret
                        refine ⟨?_, HB.out⟩
                        have hno : rightM l = false := goesUp_no HQxa.out (by rw [HGE.out, HBA2.out, ← HCK2.out, decide_eq_false HIX.out]; rfl) HLT.out
                        rw [hno]; rfl
          | succ j =>
            as_aux_lemma =>
              obtain ⟨⟨⟨xbt, xbi, ⟨xbk, xby, xbv, xbo⟩, xbb, xbe, xbd, ⟨xbr, xbh, xbf, xbu, xbn, xbp⟩⟩, xbw⟩, hqxb⟩ : ∃ q, l[j]? = some q := ⟨_, List.getElem?_eq_getElem (by omega)⟩
              obtain ⟨xbA, xbc, hwxb⟩ := prs_shape (HC.out _ _ hqxb).1
              dsimp only at hwxb
              subst hwxb
              have HQxb := Lib.hid hqxb
              clear hqxb
              have xaF0 : ∀ p : BelowBy wr, World.cell? p.w ⟨b, z + (j + 1) * 15, none⟩ = some (.int .i64 xat) := fun p => HCELL.out p.w (HB.out.trans (p.hb.mono HB.out.size)) (j + 1) _ HQxa.out 0 _ rfl
              have xaF1 : ∀ p : BelowBy wr, World.cell? p.w ⟨b, z + (j + 1) * 15 + 1, none⟩ = some (.int .i64 xai) := fun p => HCELL.out p.w (HB.out.trans (p.hb.mono HB.out.size)) (j + 1) _ HQxa.out 1 _ rfl
              have xaF2 : ∀ p : BelowBy wr, World.cell? p.w ⟨b, z + (j + 1) * 15 + 2, none⟩ = some (.int .i64 xak) := fun p => HCELL.out p.w (HB.out.trans (p.hb.mono HB.out.size)) (j + 1) _ HQxa.out 2 _ rfl
              have xaF3 : ∀ p : BelowBy wr, World.cell? p.w ⟨b, z + (j + 1) * 15 + 3, none⟩ = some (.string xay) := fun p => HCELL.out p.w (HB.out.trans (p.hb.mono HB.out.size)) (j + 1) _ HQxa.out 3 _ rfl
              have xaF4 : ∀ p : BelowBy wr, World.cell? p.w ⟨b, z + (j + 1) * 15 + 4, none⟩ = some (.string xav) := fun p => HCELL.out p.w (HB.out.trans (p.hb.mono HB.out.size)) (j + 1) _ HQxa.out 4 _ rfl
              have xaF5 : ∀ p : BelowBy wr, World.cell? p.w ⟨b, z + (j + 1) * 15 + 5, none⟩ = some (.string xao) := fun p => HCELL.out p.w (HB.out.trans (p.hb.mono HB.out.size)) (j + 1) _ HQxa.out 5 _ rfl
              have xaF6 : ∀ p : BelowBy wr, World.cell? p.w ⟨b, z + (j + 1) * 15 + 6, none⟩ = some (.int .i64 xab) := fun p => HCELL.out p.w (HB.out.trans (p.hb.mono HB.out.size)) (j + 1) _ HQxa.out 6 _ rfl
              have xaF7 : ∀ p : BelowBy wr, World.cell? p.w ⟨b, z + (j + 1) * 15 + 7, none⟩ = some (.int .i64 xae) := fun p => HCELL.out p.w (HB.out.trans (p.hb.mono HB.out.size)) (j + 1) _ HQxa.out 7 _ rfl
              have xaF8 : ∀ p : BelowBy wr, World.cell? p.w ⟨b, z + (j + 1) * 15 + 8, none⟩ = some (.bool xad) := fun p => HCELL.out p.w (HB.out.trans (p.hb.mono HB.out.size)) (j + 1) _ HQxa.out 8 _ rfl
              have xaF9 : ∀ p : BelowBy wr, World.cell? p.w ⟨b, z + (j + 1) * 15 + 9, none⟩ = some (.int .i64 xar) := fun p => HCELL.out p.w (HB.out.trans (p.hb.mono HB.out.size)) (j + 1) _ HQxa.out 9 _ rfl
              have xaF10 : ∀ p : BelowBy wr, World.cell? p.w ⟨b, z + (j + 1) * 15 + 10, none⟩ = some (.bool xah) := fun p => HCELL.out p.w (HB.out.trans (p.hb.mono HB.out.size)) (j + 1) _ HQxa.out 10 _ rfl
              have xaF11 : ∀ p : BelowBy wr, World.cell? p.w ⟨b, z + (j + 1) * 15 + 11, none⟩ = some (.bool xaf) := fun p => HCELL.out p.w (HB.out.trans (p.hb.mono HB.out.size)) (j + 1) _ HQxa.out 11 _ rfl
              have xaF12 : ∀ p : BelowBy wr, World.cell? p.w ⟨b, z + (j + 1) * 15 + 12, none⟩ = some (.string xau) := fun p => HCELL.out p.w (HB.out.trans (p.hb.mono HB.out.size)) (j + 1) _ HQxa.out 12 _ rfl
              have xaF13 : ∀ p : BelowBy wr, World.cell? p.w ⟨b, z + (j + 1) * 15 + 13, none⟩ = some (.int .i64 xan) := fun p => HCELL.out p.w (HB.out.trans (p.hb.mono HB.out.size)) (j + 1) _ HQxa.out 13 _ rfl
              have xaF14 : ∀ p : BelowBy wr, World.cell? p.w ⟨b, z + (j + 1) * 15 + 14, none⟩ = some (.slice xaA xap.length xac) := fun p => HCELL.out p.w (HB.out.trans (p.hb.mono HB.out.size)) (j + 1) _ HQxa.out 14 _ rfl
              have xbF6 : ∀ p : BelowBy wr, World.cell? p.w ⟨b, z + j * 15 + 6, none⟩ = some (.int .i64 xbb) := fun p => HCELL.out p.w (HB.out.trans (p.hb.mono HB.out.size)) j _ HQxb.out 6 _ rfl
              by_cases hbg : xab ≤ xbb
              · as_aux_lemma =>
                  have b0 : decide (xab ≤ xbb) = true := decide_eq_true hbg
                  have HBG := Lib.hid (show goes l (j + 1) ⟨xat, xai, ⟨xak, xay, xav, xao⟩, xab, xae, xad, ⟨xar, xah, xaf, xau, xan, xap⟩⟩ = false from goes_late HQxb.out hbg)
                  go_wp2_with fail
                  refine wp_region_bel (by kernel_rfl) (by kernel_rfl) ?_
                  repeat (first | go_big_quiet_step ((go_at_call 63; with_reducible exact CA.out _)) | quiet_step ((go_at_call 63; with_reducible exact CA.out _)))
                  refine wpQuiet_nil ?_
                  intro w5 hw5
                  obtain ⟨⟨w5', hb5⟩, hw5'⟩ := hw5
                  dsimp only at hw5'
                  subst hw5'
                  have HB5 := Lib.hid (HB.out.trans (hb5.mono HB.out.size))
                  clear hb5
                  clear xaF0 xaF1 xaF2 xaF3 xaF4 xaF5 xaF6 xaF7 xaF8 xaF9 xaF10 xaF11 xaF12 xaF13 xaF14 xbF6
                  go_wp2_with fail
                  go_ret
                  refine ⟨?_, HB5.out⟩
                  have hno : rightM l = false := goesUp_no HQxa.out (HBG.out) HLT.out
                  rw [hno]; rfl
              · as_aux_lemma =>
                  have b0 : decide (xab ≤ xbb) = false := decide_eq_false hbg
                  have HPV0 := Lib.hid (show prevOk l (j + 1) xab = true from goes_in (c := ⟨xat, xai, ⟨xak, xay, xav, xao⟩, xab, xae, xad, ⟨xar, xah, xaf, xau, xan, xap⟩⟩) HQxb.out hbg)
                  go_wp2_with fail
                  refine wp_region_bel (by kernel_rfl) (by kernel_rfl) ?_
                  repeat (first | go_big_quiet_step ((go_at_call 63; with_reducible exact CA.out _)) | quiet_step ((go_at_call 63; with_reducible exact CA.out _)))
                  refine wpQuiet_nil ?_
                  intro w5 hw5
                  obtain ⟨⟨w5', hb5⟩, hw5'⟩ := hw5
                  dsimp only at hw5'
                  subst hw5'
                  have HB5 := Lib.hid (HB.out.trans (hb5.mono HB.out.size))
                  clear hb5
                  clear xaF0 xaF1 xaF2 xaF3 xaF4 xaF5 xaF6 xaF7 xaF8 xaF9 xaF10 xaF11 xaF12 xaF13 xaF14 xbF6
                  clear b0 hbg
                  have HPV : prevOk l (j + 1) xab = true := HPV0.out
                  have HGE := Lib.hid (show goes l (j + 1) ⟨xat, xai, ⟨xak, xay, xav, xao⟩, xab, xae, xad, ⟨xar, xah, xaf, xau, xan, xap⟩⟩ = (befAll l (j + 1) ⟨xat, xai, ⟨xak, xay, xav, xao⟩, xab, xae, xad, ⟨xar, xah, xaf, xau, xan, xap⟩⟩ && decide (xai = cntT l (j + 1) xat)) from by
                    rw [← goesR_eq (Nat.le_of_lt HLT.out) HGO.out]; unfold goesR; dsimp only; rw [HAL.out, HPV]; rfl)
                  clear HPV
                  have HB := Lib.hid HB5.out
                  clear HB5
                  go_wp2_with fail
                  go_loopw [4, 5] (fun nv kv wr => ∃ k : Nat, k ≤ (j + 1) ∧ kv = .int .i64 k ∧ nv = .int .i64 ((cntT l k xat : Nat) : Int) ∧ befAll l k ⟨xat, xai, ⟨xak, xay, xav, xao⟩, xab, xae, xad, ⟨xar, xah, xaf, xau, xan, xap⟩⟩ = true ∧ Below w.heap.size w wr) (fun _ kv _ => (j + 1) - (intOf kv).toNat)
                  case atStart => exact ⟨0, Nat.zero_le _, rfl, rfl, rfl, HB.out⟩
                  case round =>
                    obtain ⟨k, hk, rfl, rfl, hba, hB⟩ := hrel
                    have HB := Lib.hid hB
                    have HBA := Lib.hid hba
                    have hcl := cntT_le l xat k
                    obtain ⟨ck, hck⟩ : ∃ x, x = cntT l k xat := ⟨_, rfl⟩
                    rw [← hck] at hcl ⊢
                    have HCK := Lib.hid hck
                    clear hB hba hck
                    by_cases hkl : k < (j + 1)
                    · as_aux_lemma =>
                        obtain ⟨⟨⟨xct, xci, ⟨xck, xcy, xcv, xco⟩, xcb, xce, xcd, ⟨xcr, xch, xcf, xcu, xcn, xcp⟩⟩, xcw⟩, hqxc⟩ : ∃ q, l[k]? = some q := ⟨_, List.getElem?_eq_getElem (by omega)⟩
                        obtain ⟨xcA, xcc, hwxc⟩ := prs_shape (HC.out _ _ hqxc).1
                        dsimp only at hwxc
                        subst hwxc
                        have HQxc := Lib.hid hqxc
                        clear hqxc
                        have xaF0 : ∀ p : BelowBy wr, World.cell? p.w ⟨b, z + (j + 1) * 15, none⟩ = some (.int .i64 xat) := fun p => HCELL.out p.w (HB.out.trans (p.hb.mono HB.out.size)) (j + 1) _ HQxa.out 0 _ rfl
                        have xcF0 : ∀ p : BelowBy wr, World.cell? p.w ⟨b, z + k * 15, none⟩ = some (.int .i64 xct) := fun p => HCELL.out p.w (HB.out.trans (p.hb.mono HB.out.size)) k _ HQxc.out 0 _ rfl
                        by_cases ht : xct = xat
                        · as_aux_lemma =>
                            have b0 : (xct == xat) = true := by simpa using ht
                            have b1 : decide (xct = xat) = true := by simpa using ht
                            go_wp2_with fail
                            refine wp_region_bel (by kernel_rfl) (by kernel_rfl) ?_
                            repeat (first | go_big_quiet_step (fail) | quiet_step (fail))
                            refine wpQuiet_nil ?_
                            intro w5 hw5
                            obtain ⟨⟨w5', hb5⟩, hw5'⟩ := hw5
                            dsimp only at hw5'
                            subst hw5'
                            have HB5 := Lib.hid (HB.out.trans (hb5.mono HB.out.size))
                            clear hb5
                            clear b0 b1 xaF0 xcF0
                            obtain ⟨bb, hbb⟩ : ∃ x, bef ⟨xct, xci, ⟨xck, xcy, xcv, xco⟩, xcb, xce, xcd, ⟨xcr, xch, xcf, xcu, xcn, xcp⟩⟩ ⟨xat, xai, ⟨xak, xay, xav, xao⟩, xab, xae, xad, ⟨xar, xah, xaf, xau, xan, xap⟩⟩ = x := ⟨_, rfl⟩
                            have HBB := Lib.hid hbb
                            have HTT := Lib.hid ht
                            have HB := Lib.hid HB5.out
                            clear HB5 ht
                            have xaF0 : ∀ p : BelowBy w5, World.cell? p.w ⟨b, z + (j + 1) * 15, none⟩ = some (.int .i64 xat) := fun p => HCELL.out p.w (HB.out.trans (p.hb.mono HB.out.size)) (j + 1) _ HQxa.out 0 _ rfl
                            have xaF1 : ∀ p : BelowBy w5, World.cell? p.w ⟨b, z + (j + 1) * 15 + 1, none⟩ = some (.int .i64 xai) := fun p => HCELL.out p.w (HB.out.trans (p.hb.mono HB.out.size)) (j + 1) _ HQxa.out 1 _ rfl
                            have xaF2 : ∀ p : BelowBy w5, World.cell? p.w ⟨b, z + (j + 1) * 15 + 2, none⟩ = some (.int .i64 xak) := fun p => HCELL.out p.w (HB.out.trans (p.hb.mono HB.out.size)) (j + 1) _ HQxa.out 2 _ rfl
                            have xaF3 : ∀ p : BelowBy w5, World.cell? p.w ⟨b, z + (j + 1) * 15 + 3, none⟩ = some (.string xay) := fun p => HCELL.out p.w (HB.out.trans (p.hb.mono HB.out.size)) (j + 1) _ HQxa.out 3 _ rfl
                            have xaF4 : ∀ p : BelowBy w5, World.cell? p.w ⟨b, z + (j + 1) * 15 + 4, none⟩ = some (.string xav) := fun p => HCELL.out p.w (HB.out.trans (p.hb.mono HB.out.size)) (j + 1) _ HQxa.out 4 _ rfl
                            have xaF5 : ∀ p : BelowBy w5, World.cell? p.w ⟨b, z + (j + 1) * 15 + 5, none⟩ = some (.string xao) := fun p => HCELL.out p.w (HB.out.trans (p.hb.mono HB.out.size)) (j + 1) _ HQxa.out 5 _ rfl
                            have xaF6 : ∀ p : BelowBy w5, World.cell? p.w ⟨b, z + (j + 1) * 15 + 6, none⟩ = some (.int .i64 xab) := fun p => HCELL.out p.w (HB.out.trans (p.hb.mono HB.out.size)) (j + 1) _ HQxa.out 6 _ rfl
                            have xaF7 : ∀ p : BelowBy w5, World.cell? p.w ⟨b, z + (j + 1) * 15 + 7, none⟩ = some (.int .i64 xae) := fun p => HCELL.out p.w (HB.out.trans (p.hb.mono HB.out.size)) (j + 1) _ HQxa.out 7 _ rfl
                            have xaF8 : ∀ p : BelowBy w5, World.cell? p.w ⟨b, z + (j + 1) * 15 + 8, none⟩ = some (.bool xad) := fun p => HCELL.out p.w (HB.out.trans (p.hb.mono HB.out.size)) (j + 1) _ HQxa.out 8 _ rfl
                            have xaF9 : ∀ p : BelowBy w5, World.cell? p.w ⟨b, z + (j + 1) * 15 + 9, none⟩ = some (.int .i64 xar) := fun p => HCELL.out p.w (HB.out.trans (p.hb.mono HB.out.size)) (j + 1) _ HQxa.out 9 _ rfl
                            have xaF10 : ∀ p : BelowBy w5, World.cell? p.w ⟨b, z + (j + 1) * 15 + 10, none⟩ = some (.bool xah) := fun p => HCELL.out p.w (HB.out.trans (p.hb.mono HB.out.size)) (j + 1) _ HQxa.out 10 _ rfl
                            have xaF11 : ∀ p : BelowBy w5, World.cell? p.w ⟨b, z + (j + 1) * 15 + 11, none⟩ = some (.bool xaf) := fun p => HCELL.out p.w (HB.out.trans (p.hb.mono HB.out.size)) (j + 1) _ HQxa.out 11 _ rfl
                            have xaF12 : ∀ p : BelowBy w5, World.cell? p.w ⟨b, z + (j + 1) * 15 + 12, none⟩ = some (.string xau) := fun p => HCELL.out p.w (HB.out.trans (p.hb.mono HB.out.size)) (j + 1) _ HQxa.out 12 _ rfl
                            have xaF13 : ∀ p : BelowBy w5, World.cell? p.w ⟨b, z + (j + 1) * 15 + 13, none⟩ = some (.int .i64 xan) := fun p => HCELL.out p.w (HB.out.trans (p.hb.mono HB.out.size)) (j + 1) _ HQxa.out 13 _ rfl
                            have xaF14 : ∀ p : BelowBy w5, World.cell? p.w ⟨b, z + (j + 1) * 15 + 14, none⟩ = some (.slice xaA xap.length xac) := fun p => HCELL.out p.w (HB.out.trans (p.hb.mono HB.out.size)) (j + 1) _ HQxa.out 14 _ rfl
                            have xcF0 : ∀ p : BelowBy w5, World.cell? p.w ⟨b, z + k * 15, none⟩ = some (.int .i64 xct) := fun p => HCELL.out p.w (HB.out.trans (p.hb.mono HB.out.size)) k _ HQxc.out 0 _ rfl
                            have xcF1 : ∀ p : BelowBy w5, World.cell? p.w ⟨b, z + k * 15 + 1, none⟩ = some (.int .i64 xci) := fun p => HCELL.out p.w (HB.out.trans (p.hb.mono HB.out.size)) k _ HQxc.out 1 _ rfl
                            have xcF2 : ∀ p : BelowBy w5, World.cell? p.w ⟨b, z + k * 15 + 2, none⟩ = some (.int .i64 xck) := fun p => HCELL.out p.w (HB.out.trans (p.hb.mono HB.out.size)) k _ HQxc.out 2 _ rfl
                            have xcF3 : ∀ p : BelowBy w5, World.cell? p.w ⟨b, z + k * 15 + 3, none⟩ = some (.string xcy) := fun p => HCELL.out p.w (HB.out.trans (p.hb.mono HB.out.size)) k _ HQxc.out 3 _ rfl
                            have xcF4 : ∀ p : BelowBy w5, World.cell? p.w ⟨b, z + k * 15 + 4, none⟩ = some (.string xcv) := fun p => HCELL.out p.w (HB.out.trans (p.hb.mono HB.out.size)) k _ HQxc.out 4 _ rfl
                            have xcF5 : ∀ p : BelowBy w5, World.cell? p.w ⟨b, z + k * 15 + 5, none⟩ = some (.string xco) := fun p => HCELL.out p.w (HB.out.trans (p.hb.mono HB.out.size)) k _ HQxc.out 5 _ rfl
                            have xcF6 : ∀ p : BelowBy w5, World.cell? p.w ⟨b, z + k * 15 + 6, none⟩ = some (.int .i64 xcb) := fun p => HCELL.out p.w (HB.out.trans (p.hb.mono HB.out.size)) k _ HQxc.out 6 _ rfl
                            have xcF7 : ∀ p : BelowBy w5, World.cell? p.w ⟨b, z + k * 15 + 7, none⟩ = some (.int .i64 xce) := fun p => HCELL.out p.w (HB.out.trans (p.hb.mono HB.out.size)) k _ HQxc.out 7 _ rfl
                            have xcF8 : ∀ p : BelowBy w5, World.cell? p.w ⟨b, z + k * 15 + 8, none⟩ = some (.bool xcd) := fun p => HCELL.out p.w (HB.out.trans (p.hb.mono HB.out.size)) k _ HQxc.out 8 _ rfl
                            have xcF9 : ∀ p : BelowBy w5, World.cell? p.w ⟨b, z + k * 15 + 9, none⟩ = some (.int .i64 xcr) := fun p => HCELL.out p.w (HB.out.trans (p.hb.mono HB.out.size)) k _ HQxc.out 9 _ rfl
                            have xcF10 : ∀ p : BelowBy w5, World.cell? p.w ⟨b, z + k * 15 + 10, none⟩ = some (.bool xch) := fun p => HCELL.out p.w (HB.out.trans (p.hb.mono HB.out.size)) k _ HQxc.out 10 _ rfl
                            have xcF11 : ∀ p : BelowBy w5, World.cell? p.w ⟨b, z + k * 15 + 11, none⟩ = some (.bool xcf) := fun p => HCELL.out p.w (HB.out.trans (p.hb.mono HB.out.size)) k _ HQxc.out 11 _ rfl
                            have xcF12 : ∀ p : BelowBy w5, World.cell? p.w ⟨b, z + k * 15 + 12, none⟩ = some (.string xcu) := fun p => HCELL.out p.w (HB.out.trans (p.hb.mono HB.out.size)) k _ HQxc.out 12 _ rfl
                            have xcF13 : ∀ p : BelowBy w5, World.cell? p.w ⟨b, z + k * 15 + 13, none⟩ = some (.int .i64 xcn) := fun p => HCELL.out p.w (HB.out.trans (p.hb.mono HB.out.size)) k _ HQxc.out 13 _ rfl
                            have xcF14 : ∀ p : BelowBy w5, World.cell? p.w ⟨b, z + k * 15 + 14, none⟩ = some (.slice xcA xcp.length xcc) := fun p => HCELL.out p.w (HB.out.trans (p.hb.mono HB.out.size)) k _ HQxc.out 14 _ rfl
                            have CB := Lib.hid (fun p : BelowBy w5 => calls_bel (p := p) (before_ref p.w ⟨xct, xci, ⟨xck, xcy, xcv, xco⟩, xcb, xce, xcd, ⟨xcr, xch, xcf, xcu, xcn, xcp⟩⟩ ⟨xat, xai, ⟨xak, xay, xav, xao⟩, xab, xae, xad, ⟨xar, xah, xaf, xau, xan, xap⟩⟩ (.slice xcA xcp.length xcc) (.slice xaA xap.length xac)))
                            unfold encC callC at CB
                            dsimp only at CB
                            rw [hbb] at CB
                            clear hbb
                            go_wp2_with fail
                            cases bb with
                            | false =>
                              as_aux_lemma =>
                                refine wp_region_bel (by kernel_rfl) (by kernel_rfl) ?_
                                repeat (first | go_big_quiet_step ((go_at_call 23; with_reducible exact CB.out _)) | quiet_step ((go_at_call 23; with_reducible exact CB.out _)))
                                refine wpQuiet_nil ?_
                                intro w5 hw5
                                obtain ⟨⟨w5', hb5⟩, hw5'⟩ := hw5
                                dsimp only at hw5'
                                subst hw5'
                                have HB5 := Lib.hid (HB.out.trans (hb5.mono HB.out.size))
                                clear hb5
                                clear xaF0 xaF1 xaF2 xaF3 xaF4 xaF5 xaF6 xaF7 xaF8 xaF9 xaF10 xaF11 xaF12 xaF13 xaF14 xcF0 xcF1 xcF2 xcF3 xcF4 xcF5 xcF6 xcF7 xcF8 xcF9 xcF10 xcF11 xcF12 xcF13 xcF14
                                go_wp2_with fail
                                go_ret
                                refine ⟨?_, HB5.out⟩
                                have hno : rightM l = false := goesUp_no HQxa.out (by rw [HGE.out]; cases hx : befAll l (j + 1) ⟨xat, xai, ⟨xak, xay, xav, xao⟩, xab, xae, xad, ⟨xar, xah, xaf, xau, xan, xap⟩⟩ with | false => rfl | true => (have hy := befAll_bef hx hkl HQxc.out HTT.out; dsimp only at hy; rw [HBB.out] at hy; cases hy)) HLT.out
                                rw [hno]; rfl
                            | true =>
                              as_aux_lemma =>
                                refine wp_region_bel (by kernel_rfl) (by kernel_rfl) ?_
                                repeat (first | go_big_quiet_step ((go_at_call 23; with_reducible exact CB.out _)) | quiet_step ((go_at_call 23; with_reducible exact CB.out _)))
                                refine wpQuiet_nil ?_
                                intro w5 hw5
                                obtain ⟨⟨w5', hb5⟩, hw5'⟩ := hw5
                                dsimp only at hw5'
                                subst hw5'
                                have HB5 := Lib.hid (HB.out.trans (hb5.mono HB.out.size))
                                clear hb5
                                clear xaF0 xaF1 xaF2 xaF3 xaF4 xaF5 xaF6 xaF7 xaF8 xaF9 xaF10 xaF11 xaF12 xaF13 xaF14 xcF0 xcF1 xcF2 xcF3 xcF4 xcF5 xcF6 xcF7 xcF8 xcF9 xcF10 xcF11 xcF12 xcF13 xcF14
                                go_wp2_with fail
                                exact ⟨⟨k + 1, by omega, by go_num, by rw [cntT_at HQxc.out, if_pos HTT.out, ← HCK.out]; go_num, by rw [befAll_at HQxc.out, HBA.out, if_pos HTT.out]; exact HBB.out, HB5.out⟩, by show (j + 1) - ((k : Int) + 1).toNat < (j + 1) - (k : Int).toNat; omega⟩
                        · as_aux_lemma =>
                            have b0 : (xct == xat) = false := by simpa using ht
                            have b1 : decide (xct = xat) = false := by simpa using ht
                            have HTT := Lib.hid ht
                            go_wp2_with fail
                            refine wp_region_bel (by kernel_rfl) (by kernel_rfl) ?_
                            repeat (first | go_big_quiet_step (fail) | quiet_step (fail))
                            refine wpQuiet_nil ?_
                            intro w5 hw5
                            obtain ⟨⟨w5', hb5⟩, hw5'⟩ := hw5
                            dsimp only at hw5'
                            subst hw5'
                            have HB5 := Lib.hid (HB.out.trans (hb5.mono HB.out.size))
                            clear hb5
                            clear b0 b1 xaF0 xcF0
                            clear ht
                            go_wp2_with fail
                            exact ⟨⟨k + 1, by omega, by go_num, by rw [cntT_at HQxc.out, if_neg HTT.out, ← HCK.out, Nat.add_zero], by rw [befAll_at HQxc.out, HBA.out, if_neg HTT.out]; rfl, HB5.out⟩, by show (j + 1) - ((k : Int) + 1).toNat < (j + 1) - (k : Int).toNat; omega⟩
                    · as_aux_lemma =>
                        have hke : k = (j + 1) := by omega
                        have HCK2 := Lib.hid (show ck = cntT l (j + 1) xat from by rw [HCK.out, hke])
                        have HBA2 := Lib.hid (show befAll l (j + 1) ⟨xat, xai, ⟨xak, xay, xav, xao⟩, xab, xae, xad, ⟨xar, xah, xaf, xau, xan, xap⟩⟩ = true from by rw [← hke]; exact HBA.out)
                        clear hke
                        have f1 : wr.cell? ⟨b, z + (j + 1) * 15 + 1, none⟩ = some (.int .i64 xai) := HCELL.out wr HB.out (j + 1) _ HQxa.out 1 _ rfl
                        by_cases hix : xai = (ck : Int)
                        · as_aux_lemma =>
                            have b0 : (xai != (ck : Int)) = false := by simpa using hix
                            have HIX := Lib.hid hix
                            clear hix
                            go_wp2_with fail
                            exact ⟨⟨(j + 1) + 1, by have := HLT.out; omega, by go_num, by
                              show (goesUp l (j + 1) && match l[(j + 1)]? with | some q => goes l (j + 1) q.1 | none => true) = true
                              rw [HQxa.out, HGO.out]
                              dsimp only
                              rw [HGE.out, HBA2.out, ← HCK2.out, decide_eq_true HIX.out]; rfl, HB.out⟩, by show l.length - ((((j + 1) : Nat) : Int) + 1).toNat < l.length - ((((j + 1) : Nat) : Int)).toNat; have := HLT.out; omega⟩
                        · as_aux_lemma =>
                            have b0 : (xai != (ck : Int)) = true := by simpa using hix
                            have HIX := Lib.hid hix
                            clear hix
                            go_wp2_with fail
                            go_ret
                            refine ⟨?_, HB.out⟩
                            have hno : rightM l = false := goesUp_no HQxa.out (by rw [HGE.out, HBA2.out, ← HCK2.out, decide_eq_false HIX.out]; rfl) HLT.out
                            rw [hno]; rfl
    · as_aux_lemma =>
        have hie : i = l.length := by omega
        have HE := Lib.hid (show rightM l = true from by show goesUp l l.length = true; rw [← hie]; exact HGO.out)
        clear hie
        go_wp2_with fail
        go_ret
        exact ⟨by rw [HE.out]; rfl, HB.out⟩
end Go.Proofs.YtdibkhddhgaghaaDoor.Hs
