/- dict: the law DictOrder. -/
import Derived.Outline
import Derived.Test.YtdenkbdagbmddaaDictLaw
import Derived.Test.YtdenkbdagbmddaaDictTwo
import Derived.Test.YtdenkbdagbmddaaDictCopy
import Derived.Test.YtdenkbdagbmddaaDictOrdP
import Derived.Test.YtdenkbdagbmddaaOpenRows
import Derived.WalkLawsBesides
import Derived.StillTailTactics
import Derived.BigQuiet
import Derived.Test.YtdenkbdagbmddaaBelowQuiet
namespace Go.Proofs.Ytdenkbdagbmddaa.DcL
open Go.RowKit Go.Shelf Dc DcM DcW DcI DcR DcO Bq
set_option linter.unusedVariables false
theorem MapAt.sorted {n0 g : Nat} {w : World} {l : List Pr} (h : MapAt n0 w g l) : Sorted l := h.choose_spec.choose_spec.2.1
theorem MapAt.base {n0 g : Nat} {w : World} {l : List Pr} (h : MapAt n0 w g l) : n0 ≤ w.heap.size := h.choose_spec.choose_spec.2.2
theorem all_b {n0 g : Nat} {w : World} {l : List Pr} (h : MapAt n0 w g l) (hl : l.length < 1000000) (most : Nat) :
    Calls Try.prog 7 #[.pointer (some ⟨g, 0, none⟩), .int .i64 most] w fun e w' => ∃ v, e = .returned v ∧ w'.ownsRow n0 24 2 v (l.take most).length (cellsP (l.take most)) ∧ Below w.heap.size w w' := by
  obtain ⟨kb, vb, hD, hs, hn⟩ := id h
  exact (lawall_any w n0 g kb vb l most hD hl).mono fun e w' ⟨v, he, hr, hb⟩ => ⟨v, he, row_base hr hn, hb⟩
theorem get_b {n0 g : Nat} {w : World} {l : List Pr} (h : MapAt n0 w g l) (hl : l.length < 1000000) (key y : ByteArray) (hy : dget l key = (y, true)) :
    Calls Try.prog 11 #[.pointer (some ⟨g, 0, none⟩), .string key] w fun e w' => e = .returned (.tuple #[.string y, .bool true]) ∧ Below w.heap.size w w' := by
  obtain ⟨kb, vb, hD, hs, hn⟩ := id h
  have := get_any w n0 g kb vb l key hD hs hl
  rw [hy] at this
  exact this
set_option maxRecDepth 100000 in
set_option maxHeartbeats 16000000 in
theorem order_any (w : World) (v : Value) (st : List Pr) (h : Prs w v st) (hn : st.length ≤ maxLen) (mk mv : ByteArray) : Calls Try.prog 3 #[v, .agg #[.string mk, .string mv]] w fun e w' => e = .returned (.bool true) ∧ Below w.heap.size w w' := by
  obtain ⟨A, cap, rfl, hcap, hc⟩ := h
  have HC := Lib.hid hc
  clear hc
  by_cases hl : 80 < st.length
  · go_enter Try.func3, Try.ntmps3
    go_wp2_with fail
    refine (awake_any _).mono ?_
    rintro e w1 ⟨rfl, hb⟩
    have HB := Lib.hid hb
    clear hb
    go_wp2_with fail
    go_ret
    exact ⟨rfl, ((Below.refl _ w).alloc (Nat.le_refl _) _).trans (HB.out.mono (by simp))⟩
  · go_enter Try.func3, Try.ntmps3
    go_wp2_with fail
    obtain ⟨W, hW⟩ : ∃ W, W = w.alloc (.cells #[.string mk, .string mv] 24) := ⟨_, rfl⟩
    have hb0 : Below w.heap.size w W := by rw [hW]; exact (Below.refl _ _).alloc (Nat.le_refl _) _
    have hbx : W.heap[w.heap.size]? = some (.cells #[.string mk, .string mv] 24 (0, 0)) := by rw [hW]; exact heap_alloc_new w _
    rw [← hW]
    have HB0 := Lib.hid hb0
    have HBX := Lib.hid hbx
    clear hb0 hbx hW
    refine (new_m w.heap.size W HB0.out.size).mono ?_
    rintro e w1 ⟨rfl, hm1, hk1⟩
    have K1 := Lib.hid hk1
    have M1 := Lib.hid hm1
    clear hk1 hm1
    go_wp2_with fail
    refine (new_mm M1.out).mono ?_
    rintro e w2 ⟨rfl, hm2, hk2⟩
    have K2 := Lib.hid ((Kept.of_below HB0.out (Nat.le_refl _)).trans (K1.out.trans hk2))
    have M2 := Lib.hid hm2
    have BX2 := Lib.hid (((K1.out.trans hk2).other _ _ _ _ HBX.out (by decide) (by decide)).trans HBX.out)
    clear hk2 hm2
    go_wp2_with fail
    generalize W.heap.size = g1 at *
    generalize w1.heap.size = g2 at *
    clear M1 K1 HBX HB0
    go_loopw [7] (fun i wr => ∃ k : Nat, k ≤ st.length ∧ i = .int .i64 k ∧ MM w.heap.size wr g1 (puts [] (st.take k)) g2 (puts [] ((bare st).take k)) ∧ Kept w.heap.size w wr ∧ wr.heap[w.heap.size]? = some (.cells #[.string mk, .string mv] 24 (0, 0))) (fun i _ => st.length - (intOf i).toNat)
    case atStart => exact ⟨0, by omega, rfl, M2.out, K2.out, BX2.out⟩
    case round =>
      obtain ⟨k, hk, rfl, hm, hK, hbx⟩ := hrel
      have HM := Lib.hid hm
      have HK := Lib.hid hK
      have HBX := Lib.hid hbx
      clear hm hK hbx
      by_cases hp : k < st.length
      · obtain ⟨⟨key, val⟩, hs⟩ : ∃ s, st[k]? = some s := ⟨_, List.getElem?_eq_getElem hp⟩
        obtain ⟨⟨key', val'⟩, hs'⟩ : ∃ s, st[st.length - 1 - k]? = some s := ⟨_, List.getElem?_eq_getElem (by omega)⟩
        obtain ⟨b, o, rfl, c0, c1⟩ := HC.out k _ hs
        obtain ⟨b', o', he', c0', c1'⟩ := HC.out (st.length - 1 - k) _ hs'
        cases he'
        have hbl := World.block_lt_of_cell? w _ c0
        have d0 := (HK.out.below.cell (p := ⟨b, o + k * 2, none⟩) hbl).trans c0
        have d1 := (HK.out.below.cell (p := ⟨b, o + k * 2 + 1, none⟩) hbl).trans c1
        have D0' := Lib.hid c0'
        have HBL := Lib.hid hbl
        have HS := Lib.hid hs
        have HS' := Lib.hid hs'
        have L1 := Lib.hid (length_puts (st.take k) [] List.Pairwise.nil)
        have L2 := Lib.hid (length_puts ((bare st).take k) [] List.Pairwise.nil)
        clear c0 c1 c0' c1' hs hs' hbl
        go_wp2_with fail
        have hpz : (k : Int) < (st.length : Int) := by omega
        go_still_tail 11, (by kernel_rfl)
        change wpList _ _ _ _ _ wr.drew
        clear d0 d1
        go_wp2_with fail
        refine (put_mm (HM.out.below (Below.refl _ _).drew) (by have := L1.out; simp at this; omega) key val).mono ?_
        rintro e w3 ⟨rfl, hm3, hk3⟩
        have HM3 := Lib.hid hm3
        have HK3 := Lib.hid (HK.out.trans ((Kept.of_below (Below.refl _ wr).drew HM.out.fst.base).trans hk3))
        have HX3 := Lib.hid ((hk3.other _ _ _ _ HBX.out (by decide) (by decide)).trans HBX.out)
        have d2 := (HK3.out.below.cell (p := ⟨b, o + (st.length - 1 - k) * 2, none⟩) HBL.out).trans D0'.out
        clear hm3 hk3
        have hpy : ((st.length : Int) - 1 - (k : Int)) < (st.length : Int) := by omega
        have hpx : 0 ≤ ((st.length : Int) - 1 - (k : Int)) := by omega
        have hpw : ((st.length : Int) - 1 - (k : Int)).toNat = st.length - 1 - k := by omega
        go_wp2_with fail
        refine (put_mm HM3.out.swap (by have := L2.out; simp at this; omega) key' ⟨#[]⟩).mono ?_
        rintro e w4 ⟨rfl, hm4, hk4⟩
        have HM4 := Lib.hid hm4.swap
        have HK4 := Lib.hid (HK3.out.trans hk4)
        have HX4 := Lib.hid ((hk4.other _ _ _ _ HX3.out (by decide) (by decide)).trans HX3.out)
        clear hm4 hk4 d2
        go_wp2_with fail
        refine ⟨⟨k + 1, by omega, by go_num, ?_, HK4.out, HX4.out⟩, by show st.length - ((k : Int) + 1).toNat < st.length - (k : Int).toNat; omega⟩
        rw [take_hit HS.out, puts_snoc, bare_snoc HS'.out hp, puts_snoc]
        exact HM4.out
      · have hks : k = st.length := by omega
        subst hks
        rw [List.take_length] at HM
        have hbl : (bare st).take st.length = bare st := List.take_of_length_le (by rw [bare_len]; omega)
        rw [hbl] at HM
        have HMA := HM
        have HKA := HK
        have HXA := HBX
        clear HM HK HBX hbl M2 K2 BX2
        go_wp2_with fail
        go_loopw [8] (fun i wr => ∃ k : Nat, k ≤ st.length ∧ i = .int .i64 k ∧ MM w.heap.size wr g1 (puts [] st) g2 (puts (puts [] (bare st)) (st.take k)) ∧ Kept w.heap.size w wr ∧ wr.heap[w.heap.size]? = some (.cells #[.string mk, .string mv] 24 (0, 0))) (fun i _ => st.length - (intOf i).toNat)
        case atStart => exact ⟨0, by omega, rfl, HMA.out, HKA.out, HXA.out⟩
        case round =>
          obtain ⟨k, hk, rfl, hm, hK, hbx⟩ := hrel
          have HM := Lib.hid hm
          have HK := Lib.hid hK
          have HBX := Lib.hid hbx
          clear hm hK hbx
          by_cases hp : k < st.length
          · obtain ⟨⟨key, val⟩, hs⟩ : ∃ s, st[k]? = some s := ⟨_, List.getElem?_eq_getElem hp⟩
            obtain ⟨b, o, rfl, c0, c1⟩ := HC.out k _ hs
            have hbl := World.block_lt_of_cell? w _ c0
            have d0 := (HK.out.below.cell (p := ⟨b, o + k * 2, none⟩) hbl).trans c0
            have d1 := (HK.out.below.cell (p := ⟨b, o + k * 2 + 1, none⟩) hbl).trans c1
            have HS := Lib.hid hs
            have L1 := Lib.hid (length_puts (bare st) [] List.Pairwise.nil)
            have L2 := Lib.hid (length_puts (st.take k) (puts [] (bare st)) (sorted_puts _ _ List.Pairwise.nil))
            clear c0 c1 hs hbl
            go_wp2_with fail
            have hpz : (k : Int) < (st.length : Int) := by omega
            go_still_tail 11, (by kernel_rfl)
            change wpList _ _ _ _ _ wr.drew
            clear d0 d1
            go_wp2_with fail
            refine (put_mm (HM.out.swap.below (Below.refl _ _).drew) (by have := L1.out; have := L2.out; simp [bare_len] at *; omega) key val).mono ?_
            rintro e w3 ⟨rfl, hm3, hk3⟩
            have HM3 := Lib.hid hm3.swap
            have HK3 := Lib.hid (HK.out.trans ((Kept.of_below (Below.refl _ wr).drew HM.out.fst.base).trans hk3))
            have HX3 := Lib.hid ((hk3.other _ _ _ _ HBX.out (by decide) (by decide)).trans HBX.out)
            clear hm3 hk3
            go_wp2_with fail
            refine ⟨⟨k + 1, by omega, by go_num, ?_, HK3.out, HX3.out⟩, by show st.length - ((k : Int) + 1).toNat < st.length - (k : Int).toNat; omega⟩
            rw [take_hit HS.out, puts_snoc]
            exact HM3.out
          · have hks : k = st.length := by omega
            subst hks
            rw [List.take_length, ← order_eq] at HM
            have HMB := HM
            have HKB := HK
            have HXB := HBX
            have LB := Lib.hid (length_puts st [] List.Pairwise.nil)
            clear HM HK HBX HMA HKA HXA
            have hgm : ∀ p ∈ st, (dget (puts [] st) p.1).2 = true := fun p hp => puts_has p.1 st [] List.Pairwise.nil (Or.inl ⟨p, hp, rfl⟩)
            generalize puts [] st = E at *
            have hE : E.length ≤ 80 := by have := LB.out; simp at this; omega
            clear LB
            have NB := Lib.hid HMB.out.fst.base
            have SE := Lib.hid HMB.out.fst.sorted
            have GM := Lib.hid hgm
            have tE : E.take 100 = E := List.take_of_length_le (by omega)
            clear hgm
            go_wp2_with fail
            refine (all_b HMB.out.fst (by omega) 100).mono ?_
            rw [tE]
            rintro e wa ⟨va, rfl, hra, hba⟩
            obtain ⟨A1, cap1, rfl⟩ := owns_shape hra
            have RA := Lib.hid hra
            have BA := Lib.hid hba
            clear hra hba
            go_wp2_with fail
            refine (right_ref _ _ E (Prs.of_owns RA.out) (by omega)).mono ?_
            rintro e wb ⟨⟨bt, rfl, hbt⟩, nb, hwb⟩
            obtain rfl : bt = true := hbt.2 SE.out
            clear hbt
            have BB := Lib.hid (show Below wr.heap.size wr wb by rw [hwb]; exact dn BA.out nb)
            have RB := Lib.hid (show wb.ownsRow w.heap.size 24 2 (.slice A1 E.length cap1) E.length (cellsP E) by rw [hwb]; exact owns_below' RA.out (dn (Below.refl _ _) nb))
            clear hwb
            go_wp2_with fail
            refine (all_b (HMB.out.swap.fst.below BB.out) (by omega) 100).mono ?_
            rw [tE]
            rintro e wc ⟨vc, rfl, hrc, hbc⟩
            have BC := Lib.hid (BB.out.trans (hbc.mono BB.out.size))
            have RC := Lib.hid (owns_below' RB.out hbc)
            have RC2 := Lib.hid hrc
            clear hrc hbc
            go_wp2_with fail
            refine (same_ref _ _ _ E E (Prs.of_owns RC.out) (Prs.of_owns RC2.out) (by omega)).mono ?_
            rintro e wd ⟨rfl, nd, hwd⟩
            have BD := Lib.hid (show Below wr.heap.size wr wd by rw [hwd]; exact dn BC.out nd)
            have RD := Lib.hid (show wd.ownsRow w.heap.size 24 2 (.slice A1 E.length cap1) E.length (cellsP E) by rw [hwd]; exact owns_below' RC.out (dn (Below.refl _ _) nd))
            clear hwd RC2
            simp only [decide_true]
            go_wp2_with fail
            refine (len_m (HMB.out.fst.below BD.out)).mono ?_
            rintro e we ⟨rfl, hwe⟩
            subst hwe
            have HMD := Lib.hid (HMB.out.below BD.out)
            have KD := Lib.hid (HKB.out.trans (Kept.of_below BD.out NB.out))
            have XD := Lib.hid ((BD.out.block _ (Array.getElem?_eq_some_iff.1 HXB.out).1).trans HXB.out)
            clear HMB HKB HXB BD BA BB BC RA RB RC NB
            go_wp2_with fail
            go_loopw [10] (fun i x => ∃ k : Nat, k ≤ st.length ∧ i = .int .i64 k ∧ Below we.heap.size we x) (fun i _ => st.length - (intOf i).toNat)
            case atStart => exact ⟨0, by omega, rfl, Below.refl _ _⟩
            case round =>
              obtain ⟨k, hk, rfl, hB⟩ := hrel
              have HB := Lib.hid hB
              clear hB
              by_cases hp : k < st.length
              · obtain ⟨⟨key, val⟩, hs⟩ : ∃ s, st[k]? = some s := ⟨_, List.getElem?_eq_getElem hp⟩
                obtain ⟨b, o, rfl, c0, c1⟩ := HC.out k _ hs
                have hbl := World.block_lt_of_cell? w _ c0
                have hbl2 := Nat.lt_of_lt_of_le hbl KD.out.below.size
                have d0 := (HB.out.cell (p := ⟨b, o + k * 2, none⟩) hbl2).trans ((KD.out.below.cell (p := ⟨b, o + k * 2, none⟩) hbl).trans c0)
                have D0 := Lib.hid d0
                have HBL := Lib.hid (Nat.lt_of_lt_of_le hbl2 HB.out.size)
                obtain ⟨y, hy⟩ : ∃ y, dget E key = (y, true) := ⟨(dget E key).1, Prod.ext rfl (GM.out (key, val) (List.mem_of_getElem? hs))⟩
                have HY := Lib.hid hy
                have hpz : (k : Int) < (st.length : Int) := by omega
                have HMW := Lib.hid (HMD.out.below HB.out)
                clear c0 c1 hs hbl hbl2 hy
                go_wp2_with fail
                refine (get_b HMW.out.fst (by omega) key y HY.out).mono ?_
                rintro e w5 ⟨rfl, hb5⟩
                have B5 := Lib.hid (HB.out.trans (hb5.mono HB.out.size))
                have d5 := (hb5.cell (p := ⟨b, o + k * 2, none⟩) HBL.out).trans D0.out
                have R5 := Lib.hid (owns_below' RD.out B5.out)
                clear hb5 d0
                go_wp2_with fail
                refine (get_ref _ _ E key (Prs.of_owns R5.out) (by omega)).mono ?_
                rw [HY.out]
                rintro e w6 ⟨rfl, rfl⟩
                go_wp2_with fail
                refine ⟨⟨k + 1, by omega, by go_num, B5.out⟩, by show st.length - ((k : Int) + 1).toNat < st.length - (k : Int).toNat; omega⟩
              · have BZ := Lib.hid HB.out
                clear HB
                obtain ⟨kb, vb, hD, hs, _⟩ := HMD.out.fst.below BZ.out
                have CC := Lib.hid (copy_any wr w.heap.size g1 kb vb E hD (by omega))
                clear hD hs
                go_wp2_with fail
                refine CC.out.mono ?_
                rintro e wf ⟨gc, kc, vc, rfl, hDc, hbf⟩
                have BF := Lib.hid (BZ.out.trans (hbf.mono BZ.out.size))
                have HMC := Lib.hid (show MapAt wr.heap.size wf gc E from ⟨kc, vc, hDc, SE.out, hbf.size⟩)
                have BWF := Lib.hid hbf
                have XF := Lib.hid ((BF.out.block _ (Array.getElem?_eq_some_iff.1 XD.out).1).trans XD.out)
                clear hDc hbf
                have f0 := cell_of XF.out 0
                have f1 := cell_of XF.out 1
                simp only [List.getElem?_toArray, List.getElem?_cons_succ, List.getElem?_cons_zero] at f0 f1
                go_wp2_with fail
                refine (put_m HMC.out (by omega) mk mv).mono ?_
                rintro e wg ⟨rfl, hmg, hkg⟩
                have BG := Lib.hid (BWF.out.trans hkg.below)
                have MG := Lib.hid hmg
                have MZ := Lib.hid (HMD.out.fst.below BZ.out)
                clear f0 f1 hmg hkg
                have HLP := Lib.hid (length_put mk mv SE.out)
                by_cases h0 : 0 < st.length
                · obtain ⟨⟨key, val⟩, hs⟩ : ∃ s, st[0]? = some s := ⟨_, List.getElem?_eq_getElem h0⟩
                  obtain ⟨b, o, rfl, c0, c1⟩ := HC.out 0 _ hs
                  have hbl := World.block_lt_of_cell? w _ c0
                  have hbl2 := Nat.lt_of_lt_of_le hbl KD.out.below.size
                  have d0 := (BG.out.cell (p := ⟨b, o + 0 * 2, none⟩) (Nat.lt_of_lt_of_le hbl2 BZ.out.size)).trans ((BZ.out.cell (p := ⟨b, o + 0 * 2, none⟩) hbl2).trans ((KD.out.below.cell (p := ⟨b, o + 0 * 2, none⟩) hbl).trans c0))
                  simp only [Nat.zero_mul, Nat.add_zero] at d0
                  clear c0 c1 hs hbl hbl2
                  go_wp2_with fail
                  refine (del_m MG.out (by have := HLP.out; omega) key).mono ?_
                  rintro e wk ⟨rfl, hmk, hkk⟩
                  have BK := Lib.hid (BG.out.trans hkk.below)
                  clear hmk hkk d0
                  go_wp2_with fail
                  refine (all_b (MZ.out.below BK.out) (by omega) 1).mono ?_
                  rintro e wh ⟨vh, rfl, hrh, hbh⟩
                  obtain ⟨A2, cap2, rfl⟩ := owns_shape hrh
                  have BH := Lib.hid (BK.out.trans (hbh.mono BK.out.size))
                  clear hrh hbh
                  go_wp2_with fail
                  refine (all_b (MZ.out.below BH.out) (by omega) 100).mono ?_
                  rw [tE]
                  rintro e wi ⟨vi, rfl, hri, hbi⟩
                  have BI := Lib.hid (BH.out.trans (hbi.mono BH.out.size))
                  have RI := Lib.hid (Prs.of_owns hri)
                  have RI2 := Lib.hid (Prs.of_owns (owns_below' RD.out (BZ.out.trans (BI.out.mono BZ.out.size))))
                  clear hri hbi
                  go_wp2_with fail
                  refine (same_ref _ _ _ E E RI.out RI2.out (by omega)).mono ?_
                  rintro e wj ⟨rfl, nd, hwj⟩
                  have BJ := Lib.hid (show Below wr.heap.size wr wj by rw [hwj]; exact dn BI.out nd)
                  clear hwj
                  simp only [decide_true]
                  have hmin : (E.take 1).length = min 1 E.length := by simp
                  have hminz : ((min 1 E.length : Nat) : Int) = min 1 (E.length : Int) := by omega
                  go_wp2_with fail
                  refine (awake_any _).mono ?_
                  rintro e wl ⟨rfl, hbl'⟩
                  have BL := Lib.hid (KD.out.below.trans ((BZ.out.mono KD.out.below.size).trans ((BJ.out.trans (hbl'.mono BJ.out.size)).mono (Nat.le_trans KD.out.below.size BZ.out.size))))
                  clear hbl'
                  go_wp2_with fail
                  go_ret
                  exact ⟨rfl, BL.out⟩
                · go_wp2_with fail
                  refine (all_b (MZ.out.below BG.out) (by omega) 1).mono ?_
                  rintro e wh ⟨vh, rfl, hrh, hbh⟩
                  obtain ⟨A2, cap2, rfl⟩ := owns_shape hrh
                  have BH := Lib.hid (BG.out.trans (hbh.mono BG.out.size))
                  clear hrh hbh
                  go_wp2_with fail
                  refine (all_b (MZ.out.below BH.out) (by omega) 100).mono ?_
                  rw [tE]
                  rintro e wi ⟨vi, rfl, hri, hbi⟩
                  have BI := Lib.hid (BH.out.trans (hbi.mono BH.out.size))
                  have RI := Lib.hid (Prs.of_owns hri)
                  have RI2 := Lib.hid (Prs.of_owns (owns_below' RD.out (BZ.out.trans (BI.out.mono BZ.out.size))))
                  clear hri hbi
                  go_wp2_with fail
                  refine (same_ref _ _ _ E E RI.out RI2.out (by omega)).mono ?_
                  rintro e wj ⟨rfl, nd, hwj⟩
                  have BJ := Lib.hid (show Below wr.heap.size wr wj by rw [hwj]; exact dn BI.out nd)
                  clear hwj
                  simp only [decide_true]
                  have hmin : (E.take 1).length = min 1 E.length := by simp
                  have hminz : ((min 1 E.length : Nat) : Int) = min 1 (E.length : Int) := by omega
                  go_wp2_with fail
                  refine (awake_any _).mono ?_
                  rintro e wl ⟨rfl, hbl'⟩
                  have BL := Lib.hid (KD.out.below.trans ((BZ.out.mono KD.out.below.size).trans ((BJ.out.trans (hbl'.mono BJ.out.size)).mono (Nat.le_trans KD.out.below.size BZ.out.size))))
                  clear hbl'
                  go_wp2_with fail
                  go_ret
                  exact ⟨rfl, BL.out⟩

end Go.Proofs.Ytdenkbdagbmddaa.DcL
