/- HistLooks: which calls may be a history, which is before which, and which are of what: the walk. -/
import Derived.Test.YtdibkhddhgaghaaDoorHistTab
import Derived.Test.YtdibkhddhgaghaaDoorHistMap
import Derived.Test.YtdibkhddhgaghaaDoorHistOver
import Derived.Test.YtdibkhddhgaghaaDoorHistRefR
import Derived.Deep.MidRow
namespace Go.Proofs.YtdibkhddhgaghaaDoor.Hs
open Go.RowKit Bq
set_option linter.unusedVariables false
set_option linter.unusedSimpArgs false
theorem quiet_load {P : Program} {ops : Array Oper} {C : World → Prop} {Q : Act → Prop} {rest : List Oper} {a : Act} {o : Oper} (ty : TypeId) (x : Operand) (h : o.op = .load ty x) (A : Addr) (hx : a.eval x = .pointer (some A)) (v : Value)
    (hl : ∀ w, C w → (Instr.loadAt ty (.pointer (some A))).run P w = .ok v w) (hw : Region.wanted o (yielded ops a.tmps) = true) (hk : wpQuiet P ops C Q rest (a.put o.dst v)) : wpQuiet P ops C Q (o :: rest) a :=
  BigFrame.wpQuiet_want hw fun K hK => ⟨v, fun w hw => by
    unfold Oper.quietAt execOp
    simp only [h, hx, Sem.run_bind, hl w hw, Result.andThen_ok, Sem.run_pure]
    exact ⟨rfl, rfl⟩, hK _ hk⟩
theorem its_bel {W w : World} {v : Value} {row : List Int} {b : Nat} (h : W.ownsRow b 3 1 v row.length (row.map (Value.int .i64))) (hb : Below W.heap.size W w) : Its w v row := (its_of_owns h).below hb
set_option maxRecDepth 100000 in
set_option maxHeartbeats 16000000 in
theorem looks_any (w : World) (v : Value) (kd : Int) (l : List CV) (h : Cls w v l) (ha : Arg l) (hv : Wv w) :
    Calls Tryd.prog 6 #[v, .int .i64 kd] w fun e w' => e = .returned (.bool true) ∧ Below w.heap.size w w' := by
  have HL := Lib.hid (light_any w v l h ha.len ha.few)
  have HAW := Lib.hid (fun W (hW : Below w.heap.size w W) => awake_any W (hv.below hW))
  have HCL := Lib.hid h
  have HAR := Lib.hid ha
  obtain ⟨A, cap, rfl, hcap, hc⟩ := h
  have HC := Lib.hid hc
  unfold LightPost at HL
  clear hc ha hv
  go_enter Tryd.func6, Tryd.ntmps6
  go_wp2_with fail
  refine HL.out.mono ?_
  rintro e w1 ⟨b, rfl, hw1, hL⟩
  subst hw1
  cases b with
  | false =>
    as_aux_lemma =>
      go_wp2_with fail
      refine (HAW.out w1 (Below.refl _ _)).mono ?_
      rintro e w2 ⟨rfl, hb2⟩
      have HB2 := Lib.hid hb2
      clear hb2
      go_wp2_with fail
      go_ret
      exact ⟨rfl, HB2.out⟩
  | true =>
  have HLT := Lib.hid (hL rfl)
  clear hL
  have hlen : l.length ≤ 30 := HLT.out.1
  go_wp2_with fail
  go_loopw [5] (fun iv wr => ∃ i : Nat, i ≤ l.length ∧ iv = .int .i64 i ∧ Below w1.heap.size w1 wr) (fun iv _ => l.length - (intOf iv).toNat)
  case atStart => exact ⟨0, Nat.zero_le _, rfl, Below.refl _ _⟩
  case round =>
    obtain ⟨i, hi, rfl, hB⟩ := hrel
    have HB := Lib.hid hB
    clear hB
    by_cases hil : i < l.length
    · as_aux_lemma =>
        obtain ⟨b, z, hAz⟩ : ∃ b z, A = some ⟨b, z, none⟩ := by
          obtain ⟨_, b, z, e, _⟩ := HC.out i _ (List.getElem?_eq_getElem hil)
          exact ⟨b, z, e⟩
        subst hAz
        have HCELL := Lib.hid (show ∀ W, Below w1.heap.size w1 W → ∀ j q, l[j]? = some q → ∀ t u, (callC q.1 q.2)[t]? = some u → W.cell? ⟨b, z + j * 15 + t, none⟩ = some u from fun W hW j q hq t u hu => by
          obtain ⟨_, b', z', e, hb', hc'⟩ := HC.out j q hq
          injection e with e
          injection e with e1 e2
          subst e1; subst e2
          exact (hW.cell (p := ⟨b, z + j * 15 + t, none⟩) hb').trans (hc' t u hu))
        obtain ⟨⟨⟨xat, xai, ⟨xak, xay, xav, xao⟩, xab, xae, xad, ⟨xar, xah, xaf, xau, xan, xap⟩⟩, xaw⟩, hqxa⟩ : ∃ q, l[0]? = some q := ⟨_, List.getElem?_eq_getElem (by omega)⟩
        obtain ⟨xaA, xac, hwxa⟩ := prs_shape (HC.out _ _ hqxa).1
        dsimp only at hwxa
        subst hwxa
        have HQxa := Lib.hid hqxa
        clear hqxa
        obtain ⟨⟨⟨xct, xci, ⟨xck, xcy, xcv, xco⟩, xcb, xce, xcd, ⟨xcr, xch, xcf, xcu, xcn, xcp⟩⟩, xcw⟩, hqxc⟩ : ∃ q, l[i]? = some q := ⟨_, List.getElem?_eq_getElem (by omega)⟩
        obtain ⟨xcA, xcc, hwxc⟩ := prs_shape (HC.out _ _ hqxc).1
        dsimp only at hwxc
        subst hwxc
        have HQxc := Lib.hid hqxc
        clear hqxc
        have HCZ := Lib.hid (show ∀ W, Below w1.heap.size w1 W → ∀ t u, (callC ⟨xat, xai, ⟨xak, xay, xav, xao⟩, xab, xae, xad, ⟨xar, xah, xaf, xau, xan, xap⟩⟩ (.slice xaA xap.length xac))[t]? = some u → W.cell? ⟨b, z + t, none⟩ = some u from fun W hW t u hu => by
          have h := HCELL.out W hW 0 _ HQxa.out t u hu
          rw [Nat.zero_mul, Nat.add_zero] at h
          exact h)
        obtain ⟨b1, hb1⟩ : ∃ x, bef ⟨xat, xai, ⟨xak, xay, xav, xao⟩, xab, xae, xad, ⟨xar, xah, xaf, xau, xan, xap⟩⟩ ⟨xct, xci, ⟨xck, xcy, xcv, xco⟩, xcb, xce, xcd, ⟨xcr, xch, xcf, xcu, xcn, xcp⟩⟩ = x := ⟨_, rfl⟩
        obtain ⟨b2, hb2⟩ : ∃ x, bef ⟨xct, xci, ⟨xck, xcy, xcv, xco⟩, xcb, xce, xcd, ⟨xcr, xch, xcf, xcu, xcn, xcp⟩⟩ ⟨xat, xai, ⟨xak, xay, xav, xao⟩, xab, xae, xad, ⟨xar, xah, xaf, xau, xan, xap⟩⟩ = x := ⟨_, rfl⟩
        have C1 := Lib.hid (fun p : BelowBy wr => calls_bel (p := p) (before_any p.w ⟨xat, xai, ⟨xak, xay, xav, xao⟩, xab, xae, xad, ⟨xar, xah, xaf, xau, xan, xap⟩⟩ ⟨xct, xci, ⟨xck, xcy, xcv, xco⟩, xcb, xce, xcd, ⟨xcr, xch, xcf, xcu, xcn, xcp⟩⟩ (.slice xaA xap.length xac) (.slice xcA xcp.length xcc)))
        unfold encC callC at C1
        dsimp only at C1
        rw [hb1] at C1
        have C2 := Lib.hid (fun p : BelowBy wr => calls_bel (p := p) (before_any p.w ⟨xct, xci, ⟨xck, xcy, xcv, xco⟩, xcb, xce, xcd, ⟨xcr, xch, xcf, xcu, xcn, xcp⟩⟩ ⟨xat, xai, ⟨xak, xay, xav, xao⟩, xab, xae, xad, ⟨xar, xah, xaf, xau, xan, xap⟩⟩ (.slice xcA xcp.length xcc) (.slice xaA xap.length xac)))
        unfold encC callC at C2
        dsimp only at C2
        rw [hb2] at C2
        have D1 := Lib.hid (fun p : BelowBy wr => calls_bel (p := p) (before_ref p.w ⟨xat, xai, ⟨xak, xay, xav, xao⟩, xab, xae, xad, ⟨xar, xah, xaf, xau, xan, xap⟩⟩ ⟨xct, xci, ⟨xck, xcy, xcv, xco⟩, xcb, xce, xcd, ⟨xcr, xch, xcf, xcu, xcn, xcp⟩⟩ (.slice xaA xap.length xac) (.slice xcA xcp.length xcc)))
        unfold encC callC at D1
        dsimp only at D1
        rw [hb1] at D1
        have D2 := Lib.hid (fun p : BelowBy wr => calls_bel (p := p) (before_ref p.w ⟨xct, xci, ⟨xck, xcy, xcv, xco⟩, xcb, xce, xcd, ⟨xcr, xch, xcf, xcu, xcn, xcp⟩⟩ ⟨xat, xai, ⟨xak, xay, xav, xao⟩, xab, xae, xad, ⟨xar, xah, xaf, xau, xan, xap⟩⟩ (.slice xcA xcp.length xcc) (.slice xaA xap.length xac)))
        unfold encC callC at D2
        dsimp only at D2
        rw [hb2] at D2
        have xaR : ∀ p : BelowBy wr, p.w.rangeAt b (z) [.int .i64 xat, .int .i64 xai, .int .i64 xak, .string xay, .string xav, .string xao, .int .i64 xab, .int .i64 xae, .bool xad, .int .i64 xar, .bool xah, .bool xaf, .string xau, .int .i64 xan, .slice xaA xap.length xac] := fun p t u hu => HCZ.out p.w (HB.out.trans (p.hb.mono HB.out.size)) t u (by simpa [callC] using hu)
        have xaL : ∀ p : BelowBy wr, (Instr.loadAt 50 (.pointer (some ⟨b, z, none⟩))).run Tryd.prog p.w = .ok (.agg #[.int .i64 xat, .int .i64 xai, .int .i64 xak, .string xay, .string xav, .string xao, .int .i64 xab, .int .i64 xae, .bool xad, .int .i64 xar, .bool xah, .bool xaf, .string xau, .int .i64 xan, .slice xaA xap.length xac]) p.w := fun p => run_loadAt_mid p.w b _ _ [.int .i64 xat, .int .i64 xai, .int .i64 xak, .string xay, .string xav, .string xao, .int .i64 xab, .int .i64 xae, .bool xad, .int .i64 xar, .bool xah, .bool xaf, .string xau, .int .i64 xan, .slice xaA xap.length xac] _ (xaR p) Tryd.underlying50 rfl (by kernel_rfl)
        have xaV : ∀ p : BelowBy wr, (loadVar 50 ⟨b, z, none⟩).run Tryd.prog p.w = .ok (.agg #[.int .i64 xat, .int .i64 xai, .int .i64 xak, .string xay, .string xav, .string xao, .int .i64 xab, .int .i64 xae, .bool xad, .int .i64 xar, .bool xah, .bool xaf, .string xau, .int .i64 xan, .slice xaA xap.length xac]) p.w := fun p => run_loadVar_mid p.w b _ _ [.int .i64 xat, .int .i64 xai, .int .i64 xak, .string xay, .string xav, .string xao, .int .i64 xab, .int .i64 xae, .bool xad, .int .i64 xar, .bool xah, .bool xaf, .string xau, .int .i64 xan, .slice xaA xap.length xac] _ (xaR p) Tryd.underlying50 rfl (by kernel_rfl)
        clear xaR
        have xcR : ∀ p : BelowBy wr, p.w.rangeAt b (z + i * 15) [.int .i64 xct, .int .i64 xci, .int .i64 xck, .string xcy, .string xcv, .string xco, .int .i64 xcb, .int .i64 xce, .bool xcd, .int .i64 xcr, .bool xch, .bool xcf, .string xcu, .int .i64 xcn, .slice xcA xcp.length xcc] := fun p t u hu => HCELL.out p.w (HB.out.trans (p.hb.mono HB.out.size)) i _ HQxc.out t u (by simpa [callC] using hu)
        have xcL : ∀ p : BelowBy wr, (Instr.loadAt 50 (.pointer (some ⟨b, z + i * 15, none⟩))).run Tryd.prog p.w = .ok (.agg #[.int .i64 xct, .int .i64 xci, .int .i64 xck, .string xcy, .string xcv, .string xco, .int .i64 xcb, .int .i64 xce, .bool xcd, .int .i64 xcr, .bool xch, .bool xcf, .string xcu, .int .i64 xcn, .slice xcA xcp.length xcc]) p.w := fun p => run_loadAt_mid p.w b _ _ [.int .i64 xct, .int .i64 xci, .int .i64 xck, .string xcy, .string xcv, .string xco, .int .i64 xcb, .int .i64 xce, .bool xcd, .int .i64 xcr, .bool xch, .bool xcf, .string xcu, .int .i64 xcn, .slice xcA xcp.length xcc] _ (xcR p) Tryd.underlying50 rfl (by kernel_rfl)
        have xcV : ∀ p : BelowBy wr, (loadVar 50 ⟨b, z + i * 15, none⟩).run Tryd.prog p.w = .ok (.agg #[.int .i64 xct, .int .i64 xci, .int .i64 xck, .string xcy, .string xcv, .string xco, .int .i64 xcb, .int .i64 xce, .bool xcd, .int .i64 xcr, .bool xch, .bool xcf, .string xcu, .int .i64 xcn, .slice xcA xcp.length xcc]) p.w := fun p => run_loadVar_mid p.w b _ _ [.int .i64 xct, .int .i64 xci, .int .i64 xck, .string xcy, .string xcv, .string xco, .int .i64 xcb, .int .i64 xce, .bool xcd, .int .i64 xcr, .bool xch, .bool xcf, .string xcu, .int .i64 xcn, .slice xcA xcp.length xcc] _ (xcR p) Tryd.underlying50 rfl (by kernel_rfl)
        clear xcR
        clear hb1 hb2
        have hl0 : 0 < l.length := by omega
        cases b1
        all_goals
          as_aux_lemma =>
            cases b2
            all_goals
              as_aux_lemma =>
                go_wp2_with fail
                refine wp_region_bel (by kernel_rfl) (by kernel_rfl) ?_
                repeat (first | (refine quiet_load 50 _ rfl _ rfl _ (fun w hw => by (obtain ⟨p, rfl⟩ := hw; first | exact xaL p | exact xcL p)) (by first | rfl | go_simp) ?_; dsimp only [Act.put, Array.set!, Array.setIfInBounds]; go_simp) | go_big_quiet_step ((first | (go_at_call 22; with_reducible exact C1.out _) | (go_at_call 22; with_reducible exact C2.out _) | (go_at_call 23; with_reducible exact D1.out _) | (go_at_call 23; with_reducible exact D2.out _))) | quiet_step ((first | (go_at_call 22; with_reducible exact C1.out _) | (go_at_call 22; with_reducible exact C2.out _) | (go_at_call 23; with_reducible exact D1.out _) | (go_at_call 23; with_reducible exact D2.out _))))
                refine wpQuiet_nil ?_
                intro pb
                obtain ⟨w5, hb5⟩ := pb
                dsimp only
                have HB5 := Lib.hid (HB.out.trans (hb5.mono HB.out.size))
                clear hb5
                clear xaL xaV xcL xcV
                go_wp2_with fail
                exact ⟨⟨i + 1, by omega, by go_num, HB5.out⟩, by show l.length - ((i : Int) + 1).toNat < l.length - (i : Int).toNat; omega⟩
    · as_aux_lemma =>
        have HRA := Lib.hid (fun W (hW : Below w1.heap.size w1 W) => right_any W l _ (by omega) (HCL.out.below hW) (fun q hq => ⟨by have := HLT.out.2.1 q hq; unfold few at this; omega, HAR.out.kind q hq, HAR.out.thread q hq⟩))
        have HRR := Lib.hid (fun W (hW : Below w1.heap.size w1 W) => right_ref W _ l (HCL.out.below hW) (by omega) (fun q hq => by have := HLT.out.2.1 q hq; unfold few at this; omega))
        obtain ⟨rb, hrb⟩ : ∃ x, rightM l = x := ⟨_, rfl⟩
        rw [hrb] at HRA HRR
        clear hrb
        have HOM := Lib.hid (fun W (hW : Below w1.heap.size w1 W) => over_any W _ l (HCL.out.below hW) (by omega))
        have HOR := Lib.hid (fun W (hW : Below w1.heap.size w1 W) => overlap_ref W _ l (HCL.out.below hW) (by omega))
        obtain ⟨om, hom⟩ : ∃ x, overM l = x := ⟨_, rfl⟩
        rw [hom] at HOM HOR
        clear hom
        have hpl := plcK_len l l.length
        have HPL := Lib.hid hpl
        have hol := ofK_len l kd l.length
        have HOL := Lib.hid hol
        have HMA := Lib.hid (fun W (hW : Below w1.heap.size w1 W) => mappedL_any W _ l (HCL.out.below hW) (by omega))
        have HMR := Lib.hid (fun W (hW : Below w1.heap.size w1 W) => mappedL_ref W _ l (HCL.out.below hW) (by omega))
        have HOA := Lib.hid (fun W (hW : Below w1.heap.size w1 W) => of_any W _ l kd (HCL.out.below hW) (by omega))
        have HOF := Lib.hid (fun W (hW : Below w1.heap.size w1 W) => of_ref W _ l kd (HCL.out.below hW) (by omega))
        obtain ⟨pr, hpr⟩ : ∃ x, plcK l l.length = x := ⟨_, rfl⟩
        obtain ⟨og, hog⟩ : ∃ x, ofK l kd l.length = x := ⟨_, rfl⟩
        rw [hpr] at HMA HMR HPL
        rw [hog] at HOA HOF HOL
        clear hpr hog hpl hol
        have q0 : (rb == rb) = true := by cases rb <;> rfl
        have q1 : ((om : Int) == (om : Int)) = true := by simp
        have q2 : (om == om) = true := by simp
        go_wp2_with fail
        refine (HRA.out _ HB.out).mono ?_
        rintro e w2 ⟨rfl, hb⟩
        have HB2 := Lib.hid (HB.out.trans (hb.mono HB.out.size))
        clear hb
        go_wp2_with fail
        refine (HRR.out _ HB2.out).mono ?_
        rintro e w3 ⟨rfl, hb⟩
        have HB3 := Lib.hid (HB2.out.trans (hb.mono HB2.out.size))
        clear hb
        go_wp2_with fail
        refine (HMA.out _ HB3.out).mono ?_
        rintro e w4 ⟨m1, rfl, hr, hb⟩
        have HM1 := Lib.hid hr
        have HB4 := Lib.hid (HB3.out.trans (hb.mono HB3.out.size))
        clear hb hr
        go_wp2_with fail
        refine (HMR.out _ HB4.out).mono ?_
        rintro e w5 ⟨m2, rfl, hr, hb⟩
        have HI1 := Lib.hid (its_bel HM1.out hb)
        have HI2 := Lib.hid (its_of_owns hr)
        have HB5 := Lib.hid (HB4.out.trans (hb.mono HB4.out.size))
        clear hb hr
        go_wp2_with fail
        refine (ints_ref _ _ _ _ _ HI1.out HI2.out (by have := HPL.out; omega) (by have := HPL.out; omega)).mono ?_
        rintro e w6 ⟨rfl, hb⟩
        have HB6 := Lib.hid (HB5.out.trans (hb.mono HB5.out.size))
        clear hb
        rw [decide_eq_true rfl]
        go_wp2_with fail
        refine (HOA.out _ HB6.out).mono ?_
        rintro e w7 ⟨m3, rfl, hr, hb⟩
        have HM3 := Lib.hid hr
        have HB7 := Lib.hid (HB6.out.trans (hb.mono HB6.out.size))
        clear hb hr
        go_wp2_with fail
        refine (HOF.out _ HB7.out).mono ?_
        rintro e w8 ⟨m4, rfl, hr, hb⟩
        have HI3 := Lib.hid (its_bel HM3.out hb)
        have HI4 := Lib.hid (its_of_owns hr)
        have HB8 := Lib.hid (HB7.out.trans (hb.mono HB7.out.size))
        clear hb hr
        go_wp2_with fail
        refine (ints_ref _ _ _ _ _ HI3.out HI4.out (by have := HOL.out; omega) (by have := HOL.out; omega)).mono ?_
        rintro e w9 ⟨rfl, hb⟩
        have HB9 := Lib.hid (HB8.out.trans (hb.mono HB8.out.size))
        clear hb
        rw [decide_eq_true rfl]
        go_wp2_with fail
        refine (HOM.out _ HB9.out).mono ?_
        rintro e w10 ⟨rfl, hb⟩
        have HB10 := Lib.hid (HB9.out.trans (hb.mono HB9.out.size))
        clear hb
        go_wp2_with fail
        refine (HOR.out _ HB10.out).mono ?_
        rintro e w11 ⟨rfl, hb⟩
        have HB11 := Lib.hid (HB10.out.trans (hb.mono HB10.out.size))
        clear hb
        go_wp2_with fail
        refine (HAW.out _ HB11.out).mono ?_
        rintro e w12 ⟨rfl, hb⟩
        have HB12 := Lib.hid (HB11.out.trans (hb.mono HB11.out.size))
        clear hb
        go_wp2_with fail
        go_ret
        exact ⟨rfl, HB12.out⟩
end Go.Proofs.YtdibkhddhgaghaaDoor.Hs
namespace Go.Proofs.YtdibkhddhgaghaaDoor.HsTab
open Go.RowKit
theorem looks_walk (W : World) (hT : Hs.Wv W) (v : Value) (l : List Hs.CV) (f : Hs.Cls W v l) (h : l.length ≤ maxLen ∧ ∀ q ∈ l, Hs.OpenOk q) (kd : Int) :
    Calls Tryd.prog 6 #[v, .int .i64 kd] W fun e W' => e = .returned (.bool true) ∧ Below W.heap.size W W' :=
  Hs.looks_any W v kd l f ⟨h.1, fun q hq => (h.2 q hq).few, fun q hq => (h.2 q hq).ints.2.2.1, fun q hq => (h.2 q hq).ints.1⟩ hT
end Go.Proofs.YtdibkhddhgaghaaDoor.HsTab
