/- lin: the search. lin: find, Find, Tours. -/
import Derived.Test.YtdhgacionopghaaGreatDoorLinGb
import Derived.Test.YtdhgacionopghaaGreatDoorLinGa
import Derived.Test.YtdhgacionopghaaGreatDoorOrdStepL
import Derived.Maps.AppendAt
namespace Go.Proofs.YtdhgacionopghaaGreatDoor.Ln
open Go.RowKit Go.Shelf Dc DcM DcW DcI DcR DcL Sp Od Bq Bt
set_option linter.unusedVariables false
set_option linter.unusedSimpArgs false
theorem shr_int (u k : Nat) : ((u >>> k : Nat) : Int) = (u : Int) / 2 ^ k := by rw [Nat.shiftRight_eq_div_pow]; simp
set_option maxRecDepth 100000 in
set_option maxHeartbeats 64000000 in
theorem search_any {l : List CV} {tours : Bool} (hsl : smallL l) (hP9 : (plc l).length ≤ 9) (hl : l.length < 1000000) : ∀ f, SearchAt l tours f := by
  intro f
  induction f using Nat.strongRecOn with
  | _ f ih =>
  intro w base fb mb n cv0 pv0 av0 rv0 mv0 row hF hDat hPrs hbase hg hlen hcnt
  obtain ⟨i0, hi, hz0, hz1, hz2⟩ := info_parts infoI
  have hrow9 : row.length ≤ 9 := by have := good_len hg; omega
  have hlp : ∀ (j : Nat) (q : CV), l[j]? = some q → q.1.reply.pairs.length < 100000 := fun j q hq => by have := (hsl j q hq).1; omega
  have CO := Lib.hid (over_any w fb mb cv0 pv0 av0 rv0 (maskR l row) tours l row hF.fin hDat.now.1 (its_of_owns hF.own) hl (by omega) hlp)
  obtain ⟨ov, hov⟩ : ∃ x, x = (decide (without (mustN l) (maskR l row) = 0) && (!tours || (toursM l row).2)) := ⟨_, rfl⟩
  have HST := Lib.hid (search_step (tours := tours) hg hlen)
  rw [← hov] at CO
  rw [over_mask (by omega)] at hov
  rw [← hov] at HST
  clear hov
  have HF := Lib.hid hF
  have HD := Lib.hid hDat
  have HPr := Lib.hid hPrs
  have HG0 := Lib.hid hg
  have HLEN := Lib.hid hlen
  have HCNT := Lib.hid hcnt
  have HSO := Lib.hid (sorted_behind l row [] List.Pairwise.nil)
  have HLM := Lib.hid (show (behindM l row).length ≤ 9 from Nat.le_trans (length_behind l row [] List.Pairwise.nil) (by simp; exact hrow9))
  obtain ⟨u, hu⟩ : ∃ u, u = maskR l row := ⟨_, rfl⟩
  have HUL := Lib.hid (show u < 2 ^ 64 by rw [hu]; exact mask_lt (by omega))
  rw [← hu] at CO ⊢
  have HU := Lib.hid hu
  have HLPP := Lib.hid hlp
  clear hF hDat hPrs hg hlen hcnt hu
  go_enter Tryz.func37, Tryz.ntmps37
  go_wp2_with fail
  refine CO.out.mono ?_
  cases ov with
  | true =>
    rintro e w1 ⟨rfl, hb1⟩
    have HS := Lib.hid (show searchM l tours f row = some row by rw [HST.out]; rfl)
    have B1 := Lib.hid hb1
    clear hb1
    go_wp2_with fail
    go_ret
    refine ⟨rv0, n, by rw [HS.out]; rfl, ?_, by omega, Fr.of_below B1.out, Nx.refl _ _⟩
    rw [HS.out]
    exact HF.out.below B1.out
  | false =>
    rintro e w1 ⟨rfl, hb1⟩
    have HS := Lib.hid (show searchM l tours f row = (plc l).findSome? (stepS l tours f row) by rw [HST.out]; rfl)
    have B1 := Lib.hid hb1
    have CT := Lib.hid (text_any w1 mv0 (behindM l row) (HPr.out _ (Fr.of_below B1.out)) (by have := HLM.out; omega) (fun p hp => by have := behind_small hsl row [] (fun q hq => by cases hq) p hp; omega) (HD.out _ (Fr.of_below B1.out)).2.2.2)
    have HST1 := Lib.hid (textM_len (behindM l row) (fun p hp => by have := behind_small hsl row [] (fun q hq => by cases hq) p hp; omega))
    clear hb1
    go_wp2_with fail
    refine CT.out.mono ?_
    obtain ⟨s, hs⟩ : ∃ s : ByteArray, s = ⟨(textM (behindM l row)).toArray⟩ := ⟨_, rfl⟩
    rw [← hs]
    have HSS := Lib.hid (show s.size ≤ maxLen by
      rw [hs]
      have h1 := HST1.out
      have h2 := HLM.out
      unfold maxLen
      show (textM (behindM l row)).toArray.size ≤ _
      simp only [List.size_toArray]
      omega)
    clear HST1
    have HST1 := Lib.hid (show s.data.toList = textM (behindM l row) by rw [hs])
    clear hs
    rintro e w2 ⟨rfl, hb2⟩
    obtain ⟨W3, hW3⟩ : ∃ W, W = w2.alloc (.cells #[.int .u64 (u : Int), .string s] 78) := ⟨_, rfl⟩
    obtain ⟨ab, hab⟩ : ∃ x, x = w2.heap.size := ⟨_, rfl⟩
    have B12 := B1.out.trans (hb2.mono B1.out.size)
    have hb3 : Below w2.heap.size w2 W3 := by rw [hW3]; exact (Below.refl _ _).alloc (Nat.le_refl _) _
    have B3 := Lib.hid (B12.trans (hb3.mono B12.size))
    have X3 := Lib.hid (show W3.heap[ab]? = some (.cells #[.int .u64 (u : Int), .string s] 78 (0, 0)) by rw [hW3, hab]; exact heap_alloc_new w2 _)
    have H3 := Lib.hid (HF.out.below B3.out)
    have hF2 := HF.out.below B12
    have HABF := Lib.hid (show ab ≠ fb by have := hF2.lt; omega)
    have HABM := Lib.hid (show ab ≠ mb by have := hF2.mlt; omega)
    have HABR := Lib.hid (show some ab ≠ rv0.ownBlock from fun e => by have := hF2.rlt e.symm; omega)
    have HD3 := Lib.hid (HD.out.step (Fr.of_below B3.out) (Nx.refl _ _))
    have HW3 := Lib.hid hW3
    obtain ⟨kl, hkl⟩ := keyS HUL.out HSS.out
    have HKL := Lib.hid hkl
    obtain ⟨D, hD, hMemo⟩ := H3.out.map
    obtain ⟨c, hrun, hat, hwc⟩ := hD.lookup_int keyedS Tryz.underlying63 Tryz.underlying3 (zeroI _) hkl
    have HLK : ∀ p : BelowBy W3, (Instr.lookup 63 (.map (some mb)) (.agg #[.int .u64 (u : Int), .string s]) false).run Tryz.prog p.w = .ok (.int .i64 c) p.w := fun p => by
      obtain ⟨c', hr, ha, _⟩ := (map_below hD (p.hb.block mb hD.lt)).lookup_int keyedS Tryz.underlying63 Tryz.underlying3 (zeroI _) hkl
      rw [hat] at ha
      injection ha with ha
      injection ha with _ ha
      rw [ha]
      exact hr
    have q4 : ∀ p : BelowBy W3, World.cell? p.w ⟨fb, 4, none⟩ = some (.map (some mb)) := fun p => p.cell H3.out.lt (cell_of H3.out.fin 4)
    have q6 : ∀ p : BelowBy W3, World.cell? p.w ⟨fb, 6, none⟩ = some (.bool tours) := fun p => p.cell H3.out.lt (cell_of H3.out.fin 6)
    have hxl := (Array.getElem?_eq_some_iff.1 X3.out).1
    have a0 : ∀ p : BelowBy W3, World.cell? p.w ⟨ab, 0, none⟩ = some (.int .u64 (u : Int)) := fun p => p.cell hxl (cell_of X3.out 0)
    have a1 : ∀ p : BelowBy W3, World.cell? p.w ⟨ab, 1, none⟩ = some (.string s) := fun p => p.cell hxl (cell_of X3.out 1)
    have HAT := Lib.hid hat
    have HMEM := Lib.hid hMemo
    have HDD := Lib.hid hD
    clear hb2 hW3 B12 hb3 hF2 hkl hD hrun hat hwc hMemo
    go_wp2_with fail
    rw [← HW3.out, ← hab]
    clear hab
    by_cases h0 : 0 < c
    · cases tours with
      | false =>
        have HNONE := Lib.hid (memo_hit HMEM.out HG0.out HLEN.out HST1.out (by rw [← HU.out]; exact HKL.out) HAT.out h0 rfl)
        refine wp_region_bel (by kernel_rfl) (by kernel_rfl) ?_
        repeat (first | go_big_quiet_step (fail) | quiet_step (fail))
        refine wpQuiet_nil ?_
        intro w5 hw'
        obtain ⟨p5, hp5⟩ := hw'
        have hb5 := p5.hb
        rw [← hp5] at hb5
        clear hp5
        have B5 := Lib.hid hb5
        clear hb5 q4 q6 a0 a1 HLK
        go_wp2_with fail
        go_ret
        refine ⟨rv0, n, by rw [HNONE.out]; rfl, ?_, by omega, Fr.of_below (B3.out.trans (B5.out.mono B3.out.size)), Nx.refl _ _⟩
        rw [HNONE.out]
        exact H3.out.below B5.out
      | true =>
        refine wp_region_bel (by kernel_rfl) (by kernel_rfl) ?_
        repeat (first | go_big_quiet_step (fail) | quiet_step (fail))
        refine wpQuiet_nil ?_
        intro w5 hw'
        obtain ⟨p5, hp5⟩ := hw'
        have hb5 := p5.hb
        rw [← hp5] at hb5
        clear hp5
        have B5 := Lib.hid hb5
        clear hb5 q4 q6 a0 a1 HLK
        have H5 := Lib.hid (H3.out.below B5.out)
        have X5 := Lib.hid ((B5.out.block ab (Array.getElem?_eq_some_iff.1 X3.out).1).trans X3.out)
        obtain ⟨NP, hNP⟩ : ∃ x, x = (plc l).length := ⟨_, rfl⟩
        have HNP := Lib.hid hNP
        obtain ⟨hCls, hIts, hWds, hPow⟩ := HD3.out W3 (Fr.refl _ _ _ _)
        obtain ⟨Ac, cc, ecv, _⟩ := hCls
        obtain ⟨A1, c1, epv, _, _⟩ := hIts
        obtain ⟨Aa, ca, eav, _, _⟩ := hWds
        have hal : (aheadL l).length = NP := by unfold aheadL; rw [List.length_map, List.length_range, hNP]
        rw [hal] at eav
        rw [← hNP] at epv
        have f1 : World.cell? w5 ⟨fb, 1, none⟩ = some pv0 := cell_of H5.out.fin 1
        rw [epv] at f1
        have EC := Lib.hid ecv
        have EP := Lib.hid epv
        have EA := Lib.hid eav
        have hNP9 : NP ≤ 9 := by omega
        clear hPow hal hNP ecv epv eav
        go_wp2_with fail
        clear f1
        go_loopw [39] (fun i wr => ∃ k : Nat, k ≤ NP ∧ i = .int .i64 k ∧ LoopS base fb mb n cv0 pv0 av0 rv0 l true f row W3 k wr) (fun i _ => NP - (intOf i).toNat)
        case atStart => exact ⟨0, Nat.zero_le _, rfl, rv0, n, H5.out, by omega, Fr.of_below B5.out, Nx.refl _ _, fun x hx => by simp at hx⟩
        case round =>
          obtain ⟨k, hk, rfl, hR⟩ := hrel
          have HR := Lib.hid hR
          obtain ⟨rv1, n1, hF1, hn1, hFr1, hNx1, hnone⟩ := hR
          have H1 := Lib.hid hF1
          have HN1 := Lib.hid hn1
          have HFR := Lib.hid hFr1
          have HNX := Lib.hid hNx1
          have HNO := Lib.hid hnone
          clear hF1 hn1 hFr1 hNx1 hnone
          by_cases hp : k < NP
          · obtain ⟨p, hp2⟩ : ∃ p, (plc l)[k]? = some p := ⟨_, List.getElem?_eq_getElem (by rw [← HNP.out]; exact hp)⟩
            have HM0 := mem_plc.1 (List.mem_of_getElem? hp2)
            obtain ⟨np, q, rfl, hnp, hq⟩ := mapped_at HM0
            have HM := Lib.hid HM0
            have HP2 := Lib.hid hp2
            have HQ := Lib.hid hq
            have SZ := Lib.hid (Nat.le_trans B3.out.size HFR.out.size)
            have hk64 : k < 64 := by omega
            obtain ⟨hCls, hIts, hWds, hPow⟩ := HD3.out wr HFR.out
            obtain ⟨Ac', cc', ecv, hcq0⟩ := hCls
            obtain ⟨A1', c1', epv, _, hci⟩ := hIts
            obtain ⟨Aa', ca', eav, _, hcw⟩ := hWds
            rw [EC.out] at ecv
            rw [EP.out] at epv
            rw [EA.out] at eav
            injection ecv with e1 e1b e1c
            injection epv with e2 e2b e2c
            injection eav with e3 e3b e3c
            subst e1
            subst e2
            subst e3
            subst e1c
            subst e2c
            subst e3c
            clear e1b e2b e3b
            obtain ⟨b6, z6, rfl, hbl6, hcell6⟩ := hci k _ hp2
            have haw : (aheadL l)[k]? = some (aheadN l k) := by unfold aheadL; rw [List.getElem?_map, List.getElem?_range (by rw [← HNP.out]; exact hp)]; rfl
            obtain ⟨b7, z7, rfl, hbl7, hcell7⟩ := hcw k _ haw
            have f2 : World.cell? wr ⟨fb, 2, none⟩ = some (.slice (some ⟨b7, z7, none⟩) NP ca) := (cell_of H1.out.fin 2).trans (congrArg some EA.out)
            have hAND := bits_and1 (u >>> k) (Nat.lt_of_le_of_lt (Nat.shiftRight_le _ _) HUL.out)
            have hbit := shr_bit u k
            rw [show u.testBit k = row.contains (np : Int) by rw [HU.out]; exact bit_mask hp2] at hbit
            have hANN := bits_andNot (aheadN l k) u
            have HRD := ready_mask (row := row) (by omega) hp2
            rw [← HU.out] at HRD
            obtain ⟨an, han⟩ : ∃ x, x = aheadN l k := ⟨_, rfl⟩
            rw [shr_int] at hAND
            rw [← han] at hANN hcell7 HRD
            obtain ⟨x1, hx1⟩ : ∃ x, x = (u >>> k) &&& 1 := ⟨_, rfl⟩
            obtain ⟨y1, hy1⟩ : ∃ x, x = without an u := ⟨_, rfl⟩
            rw [← hx1] at hAND hbit
            rw [← hy1] at hANN HRD
            clear han hx1 hy1 haw hci hcw hp2 HM0
            have HRY := Lib.hid HRD
            clear HRD hPow
            cases hcon : row.contains (np : Int) with
            | true =>
              rw [hcon, if_pos rfl] at hbit
              subst hbit
              have hAND' : bits .and .u64 ((u : Int) / 2 ^ k) 1 = 1 := hAND
              clear hAND
              have HMAY := Lib.hid (show mayB l row (np : Int) = false by unfold mayB; rw [hcon]; rfl)
              clear hcon hcq0 hq
              go_wp2_with fail
              refine ⟨⟨k + 1, by omega, by go_num, ?_⟩, by show NP - ((k : Int) + 1).toNat < NP - (k : Int).toNat; omega⟩
              exact HR.out.skip HP2.out HMAY.out
            | false =>
              rw [hcon] at hbit
              simp only [Bool.false_eq_true, if_false] at hbit
              subst hbit
              have hAND' : bits .and .u64 ((u : Int) / 2 ^ k) 1 = 0 := hAND
              clear hAND
              by_cases hy : y1 = 0
              case neg =>
                have hb : ((y1 : Int) != 0) = true := by simp; omega
                have HMAY := Lib.hid (show mayB l row (np : Int) = false by unfold mayB; rw [← HRY.out, decide_eq_false hy]; simp)
                clear hcon hcq0 hq hy
                go_wp2_with fail
                refine ⟨⟨k + 1, by omega, by go_num, ?_⟩, by show NP - ((k : Int) + 1).toNat < NP - (k : Int).toNat; omega⟩
                exact HR.out.skip HP2.out HMAY.out
              subst hy
              have hANN' : bits .andNot .u64 (an : Int) (u : Int) = 0 := hANN
              clear hANN
              have HCON := Lib.hid hcon
              obtain ⟨hpq, s1, s2, s3, s4, b2, z2, rfl, hbl2, hcq⟩ := hcq0 np q hq
              obtain ⟨⟨ct, ci, ⟨ok, okey, oval, oold⟩, cb, ce, cd, ⟨re, rh, rd, rvl, rn, rp⟩⟩, pvl⟩ := q
              dsimp only at hpq s1 s2 s3 s4 hcq
              obtain ⟨Ap, cp, ep, _⟩ := id hpq
              rw [ep] at hcq hpq
              have f0 : World.cell? wr ⟨fb, 0, none⟩ = some (.slice (some ⟨b2, z2, none⟩) l.length cc) := (cell_of H1.out.fin 0).trans (congrArg some EC.out)
              have k0 : World.cell? wr ⟨b2, z2 + np * 15, none⟩ = some (.int .i64 ct) := hcq 0 _ rfl
              have k1 : World.cell? wr ⟨b2, z2 + np * 15 + 1, none⟩ = some (.int .i64 ci) := hcq 1 _ rfl
              have k2 : World.cell? wr ⟨b2, z2 + np * 15 + 2, none⟩ = some (.int .i64 ok) := hcq 2 _ rfl
              have k3 : World.cell? wr ⟨b2, z2 + np * 15 + 3, none⟩ = some (.string okey) := hcq 3 _ rfl
              have k4 : World.cell? wr ⟨b2, z2 + np * 15 + 4, none⟩ = some (.string oval) := hcq 4 _ rfl
              have k5 : World.cell? wr ⟨b2, z2 + np * 15 + 5, none⟩ = some (.string oold) := hcq 5 _ rfl
              have k6 : World.cell? wr ⟨b2, z2 + np * 15 + 6, none⟩ = some (.int .i64 cb) := hcq 6 _ rfl
              have k7 : World.cell? wr ⟨b2, z2 + np * 15 + 7, none⟩ = some (.int .i64 ce) := hcq 7 _ rfl
              have k8 : World.cell? wr ⟨b2, z2 + np * 15 + 8, none⟩ = some (.bool cd) := hcq 8 _ rfl
              have k9 : World.cell? wr ⟨b2, z2 + np * 15 + 9, none⟩ = some (.int .i64 re) := hcq 9 _ rfl
              have k10 : World.cell? wr ⟨b2, z2 + np * 15 + 10, none⟩ = some (.bool rh) := hcq 10 _ rfl
              have k11 : World.cell? wr ⟨b2, z2 + np * 15 + 11, none⟩ = some (.bool rd) := hcq 11 _ rfl
              have k12 : World.cell? wr ⟨b2, z2 + np * 15 + 12, none⟩ = some (.string rvl) := hcq 12 _ rfl
              have k13 : World.cell? wr ⟨b2, z2 + np * 15 + 13, none⟩ = some (.int .i64 rn) := hcq 13 _ rfl
              have k14 : World.cell? wr ⟨b2, z2 + np * 15 + 14, none⟩ = some (.slice Ap rp.length cp) := hcq 14 _ rfl
              have HPR4 := Lib.hid (HPr.out wr ((Fr.of_below B3.out).trans (Nx.refl _ _) HFR.out))
              have HPQ := Lib.hid hpq
              have HZ := Lib.hid (And.intro s2 s3)
              have HLQ := Lib.hid (hlp np _ hq)
              obtain ⟨W4, hW4⟩ : ∃ W, W = wr.alloc (.cells #[.int .i64 ct, .int .i64 ci, .int .i64 ok, .string okey, .string oval, .string oold, .int .i64 cb, .int .i64 ce, .bool cd, .int .i64 re, .bool rh, .bool rd, .string rvl, .int .i64 rn, .slice Ap rp.length cp] 44) := ⟨_, rfl⟩
              have B4 := Lib.hid (show Below wr.heap.size wr W4 by rw [hW4]; exact (Below.refl _ _).alloc (Nat.le_refl _) _)
              have X4 := Lib.hid (show W4.heap[wr.heap.size]? = some (.cells #[.int .i64 ct, .int .i64 ci, .int .i64 ok, .string okey, .string oval, .string oold, .int .i64 cb, .int .i64 ce, .bool cd, .int .i64 re, .bool rh, .bool rd, .string rvl, .int .i64 rn, .slice Ap rp.length cp] 44 (0, 0)) by rw [hW4]; exact heap_alloc_new wr _)
              have HW4 := Lib.hid hW4
              have HBA := Lib.hid (show behindM l (row ++ [(np : Int)]) = stepM (behindM l row) ⟨ct, ci, ⟨ok, okey, oval, oold⟩, cb, ce, cd, ⟨re, rh, rd, rvl, rn, rp⟩⟩ by rw [behind_app]; unfold stepAt; rw [HM.out, Int.toNat_natCast, HQ.out]; rfl)
              have HAB := Lib.hid (show allowB l row (np : Int) = (!cd || allowsB (behindM l row) ⟨ok, okey, oval, oold⟩ ⟨re, rh, rd, rvl, rn, rp⟩) by unfold allowB; rw [Int.toNat_natCast, HQ.out])
              have CA := Lib.hid (allows_owns W4 mv0 (behindM l row) (HPR4.out.below B4.out) HSO.out (by have := HLM.out; omega) ok okey oval oold HZ.out ⟨re, rh, rd, rvl, rn, rp⟩ (.slice Ap rp.length cp) (HPQ.out.below B4.out) HLQ.out)
              obtain ⟨al, hal⟩ : ∃ x, x = allowsB (behindM l row) ⟨ok, okey, oval, oold⟩ ⟨re, rh, rd, rvl, rn, rp⟩ := ⟨_, rfl⟩
              rw [← hal] at CA HAB
              have HAL := Lib.hid hal
              have HRD2 := Lib.hid (show readyB l row (np : Int) = true by rw [← HRY.out]; rfl)
              clear hal hcq0 hq hpq ep hcq hW4 s1 s2 s3 s4 hcon
              go_wp2_with fail
              rw [← HW4.out]
              refine CA.out.mono ?_
              rintro e w6 ⟨v5, rfl, ho5, hb6⟩
              clear k0 k1 k2 k3 k4 k5 k6 k7 k8 k9 k10 k11 k12 k13 k14 f0 f2 hcell6 hcell7 hAND' hANN'
              obtain ⟨cB, hcB⟩ : ∃ x, x = wr.heap.size := ⟨_, rfl⟩
              rw [← hcB] at X4
              rw [← hcB]
              have hcBl : cB < W4.heap.size := (Array.getElem?_eq_some_iff.1 X4.out).1
              have hxd := (hb6.block cB hcBl).trans X4.out
              have X6 := Lib.hid hxd
              have O5 := Lib.hid ho5
              have B6 := Lib.hid (B4.out.trans (hb6.mono B4.out.size))
              have hcBl6 : cB < w6.heap.size := Nat.lt_of_lt_of_le hcBl hb6.size
              have d0 : World.cell? w6 ⟨cB, 0, none⟩ = some (.int .i64 ct) := cell_of hxd 0
              have d1 : World.cell? w6 ⟨cB, 1, none⟩ = some (.int .i64 ci) := cell_of hxd 1
              have d2 : World.cell? w6 ⟨cB, 2, none⟩ = some (.int .i64 ok) := cell_of hxd 2
              have d3 : World.cell? w6 ⟨cB, 3, none⟩ = some (.string okey) := cell_of hxd 3
              have d4 : World.cell? w6 ⟨cB, 4, none⟩ = some (.string oval) := cell_of hxd 4
              have d5 : World.cell? w6 ⟨cB, 5, none⟩ = some (.string oold) := cell_of hxd 5
              have d6 : World.cell? w6 ⟨cB, 6, none⟩ = some (.int .i64 cb) := cell_of hxd 6
              have d7 : World.cell? w6 ⟨cB, 7, none⟩ = some (.int .i64 ce) := cell_of hxd 7
              have d8 : World.cell? w6 ⟨cB, 8, none⟩ = some (.bool cd) := cell_of hxd 8
              have d9 : World.cell? w6 ⟨cB, 9, none⟩ = some (.int .i64 re) := cell_of hxd 9
              have d10 : World.cell? w6 ⟨cB, 10, none⟩ = some (.bool rh) := cell_of hxd 10
              have d11 : World.cell? w6 ⟨cB, 11, none⟩ = some (.bool rd) := cell_of hxd 11
              have d12 : World.cell? w6 ⟨cB, 12, none⟩ = some (.string rvl) := cell_of hxd 12
              have d13 : World.cell? w6 ⟨cB, 13, none⟩ = some (.int .i64 rn) := cell_of hxd 13
              have d14 : World.cell? w6 ⟨cB, 14, none⟩ = some (.slice Ap rp.length cp) := cell_of hxd 14
              clear hxd ho5 hb6
              cases cd with
              | false =>
                have HMAY := Lib.hid (show mayB l row (np : Int) = true by unfold mayB; rw [HCON.out, HRD2.out, HAB.out]; rfl)
                have HBM := Lib.hid (show behindM l (row ++ [(np : Int)]) = doM (behindM l row) ⟨ok, okey, oval, oold⟩ by rw [HBA.out]; rfl)
                clear hcB
                go_wp2_with fail
                refine (do_owns w6 mv0 (behindM l row) (HPR4.out.below B6.out) HSO.out (by have := HLM.out; omega) ok okey oval oold HZ.out).mono ?_
                rintro e w8 ⟨v8, p8, rfl, ho8, _, hb8⟩
                have O8 := Lib.hid ho8
                have B68 := Lib.hid (B6.out.trans (hb8.mono B6.out.size))
                clear ho8 hb8 d0 d1 d2 d3 d4 d5 d6 d7 d8 d9 d10 d11 d12 d13 d14 B6
                have B6 := B68
                clear B68
                obtain ⟨W7, hW7⟩ : ∃ W, W = w8.alloc (.cells #[.int .i64 (np : Int)] 3) := ⟨_, rfl⟩
                have B7 := Lib.hid (show Below w8.heap.size w8 W7 by rw [hW7]; exact (Below.refl _ _).alloc (Nat.le_refl _) _)
                have hc7 : ∀ j u, [Value.int .i64 (np : Int)][j]? = some u → W7.cell? ((⟨w8.heap.size, 0, none⟩ : Addr).add j) = some u := by rw [hW7]; exact cell_one_new _ _ _
                have HC7 := Lib.hid hc7
                have HW7 := Lib.hid hW7
                have H6 := Lib.hid (H1.out.below B6.out)
                have H7 := Lib.hid (H6.out.below B7.out)
                have O7 := Lib.hid (owns_below O8.out B7.out)
                have hb6s : base ≤ W7.heap.size := Nat.le_trans hbase (Nat.le_trans SZ.out (Nat.le_trans B6.out.size B7.out.size))
                clear hc7 hW7
                have f5 : World.cell? w8 ⟨fb, 5, none⟩ = some rv1 := cell_of H6.out.fin 5
                have hSH := wrap_pow k hk64
                have hlu : 2 ^ k < 2 ^ 64 := Nat.pow_lt_pow_right (by decide) hk64
                have hOR := bits_or u (2 ^ k) HUL.out hlu
                rw [show u ||| 2 ^ k = maskR l (row ++ [(np : Int)]) by rw [HU.out]; exact mask_snoc HP2.out] at hOR
                obtain ⟨pw, hpw⟩ : ∃ x, x = 2 ^ k := ⟨_, rfl⟩
                obtain ⟨um, hum⟩ : ∃ x, x = maskR l (row ++ [(np : Int)]) := ⟨_, rfl⟩
                rw [← hpw] at hSH hOR
                rw [← hum] at hOR
                have HUM := Lib.hid hum
                clear hpw hlu hum
                go_wp2_with (at_builtin; rw [← HW7.out]; refine wpList_append_own_at _ rfl _ _ 23 rfl base 3 i0 (.int .i64 0) 1 8 Tryz.underlying23 hi hz0 hz1 hz2 rfl (by decide) _ _ _ rfl H7.out.own _ 1 1 [.int .i64 (np : Int)] rfl rfl HC7.out (by simp [Value.oneCell']) (by simp [maxLen]; omega) (by omega) hb6s ?_; intro v9 w9 hown9 hgrow9 hnil9 hblk9; obtain ⟨A9, cp9, e9⟩ := owns_shape hown9; subst e9; have HO := Lib.hid hown9; have HG := Lib.hid hgrow9; have HK := Lib.hid hblk9; clear hown9 hgrow9 hnil9 hblk9; have H9 := Lib.hid ((HG.out.block fb H7.out.lt H7.out.rf).trans H7.out.fin); have c9 : World.cell? w9 ⟨fb, 5, none⟩ = some rv1 := cell_of H9.out 5; have g9 : w9.frozen? ⟨fb, 5, none⟩ = false := frozen_of H9.out 5)
                obtain ⟨W9, hW9⟩ : ∃ W, W = w9.setCell ⟨fb, 5, none⟩ (.slice A9 (row.length + 1) cp9) := ⟨_, rfl⟩
                rw [← hW9]
                have HF9 := Lib.hid (show Fs base fb mb n1 cv0 pv0 av0 (.slice A9 (row.length + 1) cp9) l true (row ++ [(np : Int)]) W9 by rw [hW9]; exact H6.out.push B7.out (by simpa using HO.out) HG.out)
                have OW9 := Lib.hid (show W9.ownsRow 0 74 2 v8 (behindM l (row ++ [(np : Int)])).length (cellsP (behindM l (row ++ [(np : Int)]))) by rw [hW9, HBM.out]; exact own_pair_set (own_pair_grow (owns_lift O7.out (Nat.zero_le _)) H7.out.own HG.out) H9.out)
                have FR9 := Lib.hid (show Fr fb mb rv1 wr W9 by
                  rw [hW9]
                  have e1 : Fr fb mb rv1 wr W7 := Fr.of_below (B6.out.trans (B7.out.mono B6.out.size))
                  have e2 : Fr fb mb rv1 W7 w9 := Fr.of_grown HG.out (fun g hg => Or.inr (Or.inr hg.symm))
                  have e3 : Fr fb mb rv1 w9 (w9.setCell ⟨fb, 5, none⟩ (.slice A9 (row.length + 1) cp9)) := Fr.set w9 5 (.slice A9 (row.length + 1) cp9)
                  exact (e1.trans (Nx.refl _ _) e2).trans (Nx.refl _ _) e3)
                have NX9 := Lib.hid (show Nx wr rv1 (.slice A9 (row.length + 1) cp9) from by
                  rcases HK.out with e | e
                  · exact Or.inl e
                  · exact Or.inr ⟨_, e, Nat.le_trans B6.out.size B7.out.size⟩)
                have hgs := HG0.out.snoc HM.out HMAY.out
                have hfl := good_len hgs
                obtain ⟨f', rfl⟩ : ∃ f', f = f' + 1 := ⟨f - 1, by have := HLEN.out; simp at hfl; omega⟩
                have hcn : n1 + cnt (plc l).length (f' + 1) ≤ 20000000000 := by
                  have h1 := HN1.out
                  have h2 : (k + 1) * cnt (plc l).length (f' + 1) ≤ (plc l).length * cnt (plc l).length (f' + 1) := Nat.mul_le_mul_right _ (by rw [← HNP.out]; omega)
                  have h3 := HCNT.out
                  have h4 : cnt (plc l).length (f' + 1 + 1) = 1 + (plc l).length * cnt (plc l).length (f' + 1) := rfl
                  rw [Nat.add_mul] at h2
                  omega
                have IH := Lib.hid (ih f' (by omega) W9 base fb mb n1 cv0 pv0 av0 (.slice A9 (row.length + 1) cp9) v8 (row ++ [(np : Int)]) HF9.out ((HD3.out.step (HFR.out.trans HNX.out FR9.out) (HNX.out.trans NX9.out HFR.out.size))) (HF9.out.stPrs OW9.out) (Nat.le_trans hb6s (Nat.le_trans HG.out.size (by rw [hW9]; simp [World.setCell]))) hgs (by have := HLEN.out; simp; omega) hcn)
                rw [← HUM.out] at IH
                have HW9 := Lib.hid hW9
                clear hgs hfl hcn hW9 hSH hOR
                refine IH.out.mono ?_
                rintro e w10 ⟨rv3, n3, he, hF3, hn3, hFr3, hNx3⟩
                have HFR3 := Lib.hid ((HFR.out.trans HNX.out FR9.out).trans (HNX.out.trans NX9.out HFR.out.size) hFr3)
                have HNX3 := Lib.hid ((HNX.out.trans NX9.out HFR.out.size).trans hNx3 (HFR.out.trans HNX.out FR9.out).size)
                have HN3 := Lib.hid (show n3 ≤ n + (k + 1) * cnt (plc l).length (f' + 1) by
                  have h1 := HN1.out
                  rw [Nat.add_mul]
                  omega)
                have HSTP := Lib.hid (show stepS l true (f' + 1) row (np : Int) = searchM l true f' (row ++ [(np : Int)]) by unfold stepS; rw [HMAY.out]; rfl)
                clear hFr3 hNx3 hn3
                cases hsr : searchM l true f' (row ++ [(np : Int)]) with
                | some r =>
                  rw [hsr] at he hF3
                  subst he
                  have HF3 := Lib.hid hF3
                  have HRES := Lib.hid (show searchM l true (f' + 1) row = some r by rw [HS.out, fs_at HP2.out HNO.out (by rw [HSTP.out, hsr]; exact fun e => by cases e), HSTP.out, hsr])
                  clear hF3 hsr
                  go_wp2_with fail
                  go_ret
                  refine ⟨rv3, n3, by rw [HRES.out]; rfl, ?_, ?_, ?_, ?_⟩
                  · rw [HRES.out]; exact HF3.out
                  · have h1 := HN3.out
                    have h2 : (k + 1) * cnt (plc l).length (f' + 1) ≤ (plc l).length * cnt (plc l).length (f' + 1) := Nat.mul_le_mul_right _ (by rw [← HNP.out]; omega)
                    have h4 : cnt (plc l).length (f' + 1 + 1) = 1 + (plc l).length * cnt (plc l).length (f' + 1) := rfl
                    omega
                  · exact (Fr.of_below B3.out).trans (Nx.refl _ _) HFR3.out
                  · exact (Nx.refl _ _).trans HNX3.out B3.out.size
                | none =>
                  rw [hsr] at he hF3
                  subst he
                  obtain ⟨A3, c3, e3⟩ := owns_shape hF3.own
                  obtain ⟨k3, hk3⟩ : ∃ x, x = (Option.getD (none : Option (List Int)) (row ++ [(np : Int)])).length := ⟨_, rfl⟩
                  rw [← hk3] at e3
                  subst e3
                  obtain ⟨hpop, ek3, hcap3, hA3⟩ := Fs.pop hF3
                  clear hk3
                  subst ek3
                  obtain ⟨⟨g3, o3, i3⟩, rfl⟩ := Option.isSome_iff_exists.1 hA3
                  have f53 : World.cell? w10 ⟨fb, 5, none⟩ = some (.slice (some ⟨g3, o3, i3⟩) (row.length + 1) c3) := cell_of hF3.fin 5
                  have g53 : w10.frozen? ⟨fb, 5, none⟩ = false := frozen_of hF3.fin 5
                  have HPOP := Lib.hid hpop
                  have HLT3 := Lib.hid hF3.lt
                  have HNO2 := Lib.hid (take_all HP2.out HNO.out (show stepS l true (f' + 1) row (np : Int) = none by rw [HSTP.out, hsr]))
                  obtain ⟨rl, hrl⟩ : ∃ x, x = row.length := ⟨_, rfl⟩
                  rw [← hrl] at f53 hcap3 HPOP hrow9
                  clear hpop hF3 hsr hA3 hrl
                  have hs1 : (0 : Int) ≤ (rl : Int) := by omega
                  have hs2 : (rl : Int) ≤ (c3 : Int) := by omega
                  go_wp2_with fail
                  go_region
                  go_wp2_with fail
                  refine ⟨⟨k + 1, by omega, by go_num, ?_⟩, by show NP - ((k : Int) + 1).toNat < NP - (k : Int).toNat; omega⟩
                  exact ⟨_, n3, HPOP.out.drew, HN3.out, (HFR3.out.trans HNX3.out (Fr.set w10 5 _)).drew, HNX3.out, HNO2.out⟩
              | true =>
                cases al with
                | false =>
                  have HMAY := Lib.hid (show mayB l row (np : Int) = false by unfold mayB; rw [HAB.out]; simp)
                  clear hcB
                  go_wp2_with fail
                  refine ⟨⟨k + 1, by omega, by go_num, ?_⟩, by show NP - ((k : Int) + 1).toNat < NP - (k : Int).toNat; omega⟩
                  exact (HR.out.skip HP2.out HMAY.out).below B6.out
                | true =>
                  have HMAY := Lib.hid (show mayB l row (np : Int) = true by unfold mayB; rw [HCON.out, HRD2.out, HAB.out]; rfl)
                  have HBM := Lib.hid (show behindM l (row ++ [(np : Int)]) = allowsM (behindM l row) ⟨ok, okey, oval, oold⟩ ⟨re, rh, rd, rvl, rn, rp⟩ by rw [HBA.out, allows_step HAL.out.symm ct ci cb ce])
                  clear hcB d0 d1 d2 d3 d4 d5 d6 d7 d9 d10 d11 d12 d13 d14
                  obtain ⟨W7, hW7⟩ : ∃ W, W = w6.alloc (.cells #[.int .i64 (np : Int)] 3) := ⟨_, rfl⟩
                  have B7 := Lib.hid (show Below w6.heap.size w6 W7 by rw [hW7]; exact (Below.refl _ _).alloc (Nat.le_refl _) _)
                  have hc7 : ∀ j u, [Value.int .i64 (np : Int)][j]? = some u → W7.cell? ((⟨w6.heap.size, 0, none⟩ : Addr).add j) = some u := by rw [hW7]; exact cell_one_new _ _ _
                  have HC7 := Lib.hid hc7
                  have HW7 := Lib.hid hW7
                  have H6 := Lib.hid (H1.out.below B6.out)
                  have H7 := Lib.hid (H6.out.below B7.out)
                  have O7 := Lib.hid (owns_below O5.out B7.out)
                  have hb6s : base ≤ W7.heap.size := Nat.le_trans hbase (Nat.le_trans SZ.out (Nat.le_trans B6.out.size B7.out.size))
                  clear hc7 hW7
                  have f5 : World.cell? w6 ⟨fb, 5, none⟩ = some rv1 := cell_of H6.out.fin 5
                  have hSH := wrap_pow k hk64
                  have hlu : 2 ^ k < 2 ^ 64 := Nat.pow_lt_pow_right (by decide) hk64
                  have hOR := bits_or u (2 ^ k) HUL.out hlu
                  rw [show u ||| 2 ^ k = maskR l (row ++ [(np : Int)]) by rw [HU.out]; exact mask_snoc HP2.out] at hOR
                  obtain ⟨pw, hpw⟩ : ∃ x, x = 2 ^ k := ⟨_, rfl⟩
                  obtain ⟨um, hum⟩ : ∃ x, x = maskR l (row ++ [(np : Int)]) := ⟨_, rfl⟩
                  rw [← hpw] at hSH hOR
                  rw [← hum] at hOR
                  have HUM := Lib.hid hum
                  clear hpw hlu hum
                  go_wp2_with (at_builtin; rw [← HW7.out]; refine wpList_append_own_at _ rfl _ _ 23 rfl base 3 i0 (.int .i64 0) 1 8 Tryz.underlying23 hi hz0 hz1 hz2 rfl (by decide) _ _ _ rfl H7.out.own _ 1 1 [.int .i64 (np : Int)] rfl rfl HC7.out (by simp [Value.oneCell']) (by simp [maxLen]; omega) (by omega) hb6s ?_; intro v9 w9 hown9 hgrow9 hnil9 hblk9; obtain ⟨A9, cp9, e9⟩ := owns_shape hown9; subst e9; have HO := Lib.hid hown9; have HG := Lib.hid hgrow9; have HK := Lib.hid hblk9; clear hown9 hgrow9 hnil9 hblk9; have H9 := Lib.hid ((HG.out.block fb H7.out.lt H7.out.rf).trans H7.out.fin); have c9 : World.cell? w9 ⟨fb, 5, none⟩ = some rv1 := cell_of H9.out 5; have g9 : w9.frozen? ⟨fb, 5, none⟩ = false := frozen_of H9.out 5)
                  obtain ⟨W9, hW9⟩ : ∃ W, W = w9.setCell ⟨fb, 5, none⟩ (.slice A9 (row.length + 1) cp9) := ⟨_, rfl⟩
                  rw [← hW9]
                  have HF9 := Lib.hid (show Fs base fb mb n1 cv0 pv0 av0 (.slice A9 (row.length + 1) cp9) l true (row ++ [(np : Int)]) W9 by rw [hW9]; exact H6.out.push B7.out (by simpa using HO.out) HG.out)
                  have OW9 := Lib.hid (show W9.ownsRow 0 74 2 v5 (behindM l (row ++ [(np : Int)])).length (cellsP (behindM l (row ++ [(np : Int)]))) by rw [hW9, HBM.out]; exact own_pair_set (own_pair_grow (owns_lift O7.out (Nat.zero_le _)) H7.out.own HG.out) H9.out)
                  have FR9 := Lib.hid (show Fr fb mb rv1 wr W9 by
                    rw [hW9]
                    have e1 : Fr fb mb rv1 wr W7 := Fr.of_below (B6.out.trans (B7.out.mono B6.out.size))
                    have e2 : Fr fb mb rv1 W7 w9 := Fr.of_grown HG.out (fun g hg => Or.inr (Or.inr hg.symm))
                    have e3 : Fr fb mb rv1 w9 (w9.setCell ⟨fb, 5, none⟩ (.slice A9 (row.length + 1) cp9)) := Fr.set w9 5 (.slice A9 (row.length + 1) cp9)
                    exact (e1.trans (Nx.refl _ _) e2).trans (Nx.refl _ _) e3)
                  have NX9 := Lib.hid (show Nx wr rv1 (.slice A9 (row.length + 1) cp9) from by
                    rcases HK.out with e | e
                    · exact Or.inl e
                    · exact Or.inr ⟨_, e, Nat.le_trans B6.out.size B7.out.size⟩)
                  have hgs := HG0.out.snoc HM.out HMAY.out
                  have hfl := good_len hgs
                  obtain ⟨f', rfl⟩ : ∃ f', f = f' + 1 := ⟨f - 1, by have := HLEN.out; simp at hfl; omega⟩
                  have hcn : n1 + cnt (plc l).length (f' + 1) ≤ 20000000000 := by
                    have h1 := HN1.out
                    have h2 : (k + 1) * cnt (plc l).length (f' + 1) ≤ (plc l).length * cnt (plc l).length (f' + 1) := Nat.mul_le_mul_right _ (by rw [← HNP.out]; omega)
                    have h3 := HCNT.out
                    have h4 : cnt (plc l).length (f' + 1 + 1) = 1 + (plc l).length * cnt (plc l).length (f' + 1) := rfl
                    rw [Nat.add_mul] at h2
                    omega
                  have IH := Lib.hid (ih f' (by omega) W9 base fb mb n1 cv0 pv0 av0 (.slice A9 (row.length + 1) cp9) v5 (row ++ [(np : Int)]) HF9.out ((HD3.out.step (HFR.out.trans HNX.out FR9.out) (HNX.out.trans NX9.out HFR.out.size))) (HF9.out.stPrs OW9.out) (Nat.le_trans hb6s (Nat.le_trans HG.out.size (by rw [hW9]; simp [World.setCell]))) hgs (by have := HLEN.out; simp; omega) hcn)
                  rw [← HUM.out] at IH
                  have HW9 := Lib.hid hW9
                  clear hgs hfl hcn hW9 hSH hOR
                  refine IH.out.mono ?_
                  rintro e w10 ⟨rv3, n3, he, hF3, hn3, hFr3, hNx3⟩
                  have HFR3 := Lib.hid ((HFR.out.trans HNX.out FR9.out).trans (HNX.out.trans NX9.out HFR.out.size) hFr3)
                  have HNX3 := Lib.hid ((HNX.out.trans NX9.out HFR.out.size).trans hNx3 (HFR.out.trans HNX.out FR9.out).size)
                  have HN3 := Lib.hid (show n3 ≤ n + (k + 1) * cnt (plc l).length (f' + 1) by
                    have h1 := HN1.out
                    rw [Nat.add_mul]
                    omega)
                  have HSTP := Lib.hid (show stepS l true (f' + 1) row (np : Int) = searchM l true f' (row ++ [(np : Int)]) by unfold stepS; rw [HMAY.out]; rfl)
                  clear hFr3 hNx3 hn3
                  cases hsr : searchM l true f' (row ++ [(np : Int)]) with
                  | some r =>
                    rw [hsr] at he hF3
                    subst he
                    have HF3 := Lib.hid hF3
                    have HRES := Lib.hid (show searchM l true (f' + 1) row = some r by rw [HS.out, fs_at HP2.out HNO.out (by rw [HSTP.out, hsr]; exact fun e => by cases e), HSTP.out, hsr])
                    clear hF3 hsr
                    go_wp2_with fail
                    go_ret
                    refine ⟨rv3, n3, by rw [HRES.out]; rfl, ?_, ?_, ?_, ?_⟩
                    · rw [HRES.out]; exact HF3.out
                    · have h1 := HN3.out
                      have h2 : (k + 1) * cnt (plc l).length (f' + 1) ≤ (plc l).length * cnt (plc l).length (f' + 1) := Nat.mul_le_mul_right _ (by rw [← HNP.out]; omega)
                      have h4 : cnt (plc l).length (f' + 1 + 1) = 1 + (plc l).length * cnt (plc l).length (f' + 1) := rfl
                      omega
                    · exact (Fr.of_below B3.out).trans (Nx.refl _ _) HFR3.out
                    · exact (Nx.refl _ _).trans HNX3.out B3.out.size
                  | none =>
                    rw [hsr] at he hF3
                    subst he
                    obtain ⟨A3, c3, e3⟩ := owns_shape hF3.own
                    obtain ⟨k3, hk3⟩ : ∃ x, x = (Option.getD (none : Option (List Int)) (row ++ [(np : Int)])).length := ⟨_, rfl⟩
                    rw [← hk3] at e3
                    subst e3
                    obtain ⟨hpop, ek3, hcap3, hA3⟩ := Fs.pop hF3
                    clear hk3
                    subst ek3
                    obtain ⟨⟨g3, o3, i3⟩, rfl⟩ := Option.isSome_iff_exists.1 hA3
                    have f53 : World.cell? w10 ⟨fb, 5, none⟩ = some (.slice (some ⟨g3, o3, i3⟩) (row.length + 1) c3) := cell_of hF3.fin 5
                    have g53 : w10.frozen? ⟨fb, 5, none⟩ = false := frozen_of hF3.fin 5
                    have HPOP := Lib.hid hpop
                    have HLT3 := Lib.hid hF3.lt
                    have HNO2 := Lib.hid (take_all HP2.out HNO.out (show stepS l true (f' + 1) row (np : Int) = none by rw [HSTP.out, hsr]))
                    obtain ⟨rl, hrl⟩ : ∃ x, x = row.length := ⟨_, rfl⟩
                    rw [← hrl] at f53 hcap3 HPOP hrow9
                    clear hpop hF3 hsr hA3 hrl
                    have hs1 : (0 : Int) ≤ (rl : Int) := by omega
                    have hs2 : (rl : Int) ≤ (c3 : Int) := by omega
                    go_wp2_with fail
                    go_region
                    go_wp2_with fail
                    refine ⟨⟨k + 1, by omega, by go_num, ?_⟩, by show NP - ((k : Int) + 1).toNat < NP - (k : Int).toNat; omega⟩
                    exact ⟨_, n3, HPOP.out.drew, HN3.out, (HFR3.out.trans HNX3.out (Fr.set w10 5 _)).drew, HNX3.out, HNO2.out⟩
          · obtain rfl : k = NP := by omega
            have HALL := Lib.hid (show searchM l true f row = none by
              rw [HS.out, List.findSome?_eq_none_iff]
              intro x hx
              exact HNO.out x (by rw [List.take_of_length_le (by rw [← HNP.out]; exact Nat.le_refl _)]; exact hx))
            obtain ⟨D1, hD1, hMe1⟩ := H1.out.map
            have hD2 : OwnM wr.drew mb n1 D1 := hD1
            have hn1l : n1 < maxLen := by
              have h1 := HN1.out
              have h3 := HCNT.out
              have h4 : cnt (plc l).length (f + 1) = 1 + (plc l).length * cnt (plc l).length f := rfl
              rw [HNP.out] at h1
              unfold maxLen
              omega
            obtain ⟨c1', v01, st1, w21, hat1, hwc1, hlk1, hme1, hlk2, hg2, hst⟩ := bump_own hD2 hn1l HKL.out
            obtain ⟨w41, hes, hD4, hg4⟩ := hst (IntKind.i64.wrap (c1' + 1)) (WalkArith.wf_i64 (by simp only [IntKind.wrap_i64]; omega))
            have HD4 := Lib.hid hD4
            have HG4 := Lib.hid (show wr.grownBy w41 (some mb) from ⟨hg4.os, hg4.tape, hg4.output, hg4.size, hg4.block⟩)
            have HME1 := Lib.hid hMe1
            have X9 := Lib.hid ((HFR.out.block ab (Array.getElem?_eq_some_iff.1 X3.out).1 HABF.out HABM.out HABR.out).trans X3.out)
            have f4 : World.cell? wr ⟨fb, 4, none⟩ = some (.map (some mb)) := cell_of H1.out.fin 4
            have a0 : World.cell? wr ⟨ab, 0, none⟩ = some (.int .u64 (u : Int)) := cell_of X9.out 0
            have a1 : World.cell? wr ⟨ab, 1, none⟩ = some (.string s) := cell_of X9.out 1
            have f42 : World.cell? w21 ⟨fb, 4, none⟩ = some (.map (some mb)) := cell_of ((hg2.block fb H1.out.lt (fun e => H1.out.mf (Option.some.inj e).symm)).trans H1.out.fin) 4
            have xa2 := (hg2.block ab (Array.getElem?_eq_some_iff.1 X9.out).1 (fun e => HABM.out (Option.some.inj e))).trans X9.out
            have a02 : World.cell? w21 ⟨ab, 0, none⟩ = some (.int .u64 (u : Int)) := cell_of xa2 0
            have a12 : World.cell? w21 ⟨ab, 1, none⟩ = some (.string s) := cell_of xa2 1
            unfold goInt at hme1 hes
            clear hD1 hD2 hMe1 hat1 hwc1 hst hD4 hg4 xa2 hg2
            go_wp2_with fail
            go_region
            all_goals go_wp2_with fail
            all_goals go_ret
            all_goals refine ⟨rv1, n1 + 1, by rw [HALL.out]; rfl, ?_, ?_, ?_, ?_⟩
            all_goals first
              | (have h1 := HN1.out
                 have h4 : cnt (plc l).length (f + 1) = 1 + (plc l).length * cnt (plc l).length f := rfl
                 rw [HNP.out] at h1
                 omega)
              | exact (Nx.refl _ _).trans HNX.out B3.out.size
              | exact (Fr.of_below B3.out).trans (Nx.refl _ _) (HFR.out.trans HNX.out (Fr.of_grown HG4.out (fun g hg => Or.inr (Or.inl (Option.some.inj hg).symm))))
              | (rw [HALL.out]
                 refine ⟨(HG4.out.block fb H1.out.lt (fun e => H1.out.mf (Option.some.inj e).symm)).trans H1.out.fin, H1.out.own.kept HG4.out (by
                   rcases hcl : rv1.ownBlock with _ | g
                   · exact Or.inl rfl
                   · exact Or.inr (fun e => H1.out.rm (by rw [hcl, e]))), _, HD4.out, memo_put HME1.out HG0.out HLEN.out HST1.out (by rw [← HU.out]; exact HKL.out) HALL.out⟩)
    · 
      refine wp_region_bel (by kernel_rfl) (by kernel_rfl) ?_
      repeat (first | go_big_quiet_step (fail) | quiet_step (fail))
      refine wpQuiet_nil ?_
      intro w5 hw'
      obtain ⟨p5, hp5⟩ := hw'
      have hb5 := p5.hb
      rw [← hp5] at hb5
      clear hp5
      have B5 := Lib.hid hb5
      clear hb5 q4 q6 a0 a1 HLK
      have H5 := Lib.hid (H3.out.below B5.out)
      have X5 := Lib.hid ((B5.out.block ab (Array.getElem?_eq_some_iff.1 X3.out).1).trans X3.out)
      obtain ⟨NP, hNP⟩ : ∃ x, x = (plc l).length := ⟨_, rfl⟩
      have HNP := Lib.hid hNP
      obtain ⟨hCls, hIts, hWds, hPow⟩ := HD3.out W3 (Fr.refl _ _ _ _)
      obtain ⟨Ac, cc, ecv, _⟩ := hCls
      obtain ⟨A1, c1, epv, _, _⟩ := hIts
      obtain ⟨Aa, ca, eav, _, _⟩ := hWds
      have hal : (aheadL l).length = NP := by unfold aheadL; rw [List.length_map, List.length_range, hNP]
      rw [hal] at eav
      rw [← hNP] at epv
      have f1 : World.cell? w5 ⟨fb, 1, none⟩ = some pv0 := cell_of H5.out.fin 1
      rw [epv] at f1
      have EC := Lib.hid ecv
      have EP := Lib.hid epv
      have EA := Lib.hid eav
      have hNP9 : NP ≤ 9 := by omega
      clear hPow hal hNP ecv epv eav
      go_wp2_with fail
      clear f1
      go_loopw [39] (fun i wr => ∃ k : Nat, k ≤ NP ∧ i = .int .i64 k ∧ LoopS base fb mb n cv0 pv0 av0 rv0 l tours f row W3 k wr) (fun i _ => NP - (intOf i).toNat)
      case atStart => exact ⟨0, Nat.zero_le _, rfl, rv0, n, H5.out, by omega, Fr.of_below B5.out, Nx.refl _ _, fun x hx => by simp at hx⟩
      case round =>
        obtain ⟨k, hk, rfl, hR⟩ := hrel
        have HR := Lib.hid hR
        obtain ⟨rv1, n1, hF1, hn1, hFr1, hNx1, hnone⟩ := hR
        have H1 := Lib.hid hF1
        have HN1 := Lib.hid hn1
        have HFR := Lib.hid hFr1
        have HNX := Lib.hid hNx1
        have HNO := Lib.hid hnone
        clear hF1 hn1 hFr1 hNx1 hnone
        by_cases hp : k < NP
        · obtain ⟨p, hp2⟩ : ∃ p, (plc l)[k]? = some p := ⟨_, List.getElem?_eq_getElem (by rw [← HNP.out]; exact hp)⟩
          have HM0 := mem_plc.1 (List.mem_of_getElem? hp2)
          obtain ⟨np, q, rfl, hnp, hq⟩ := mapped_at HM0
          have HM := Lib.hid HM0
          have HP2 := Lib.hid hp2
          have HQ := Lib.hid hq
          have SZ := Lib.hid (Nat.le_trans B3.out.size HFR.out.size)
          have hk64 : k < 64 := by omega
          obtain ⟨hCls, hIts, hWds, hPow⟩ := HD3.out wr HFR.out
          obtain ⟨Ac', cc', ecv, hcq0⟩ := hCls
          obtain ⟨A1', c1', epv, _, hci⟩ := hIts
          obtain ⟨Aa', ca', eav, _, hcw⟩ := hWds
          rw [EC.out] at ecv
          rw [EP.out] at epv
          rw [EA.out] at eav
          injection ecv with e1 e1b e1c
          injection epv with e2 e2b e2c
          injection eav with e3 e3b e3c
          subst e1
          subst e2
          subst e3
          subst e1c
          subst e2c
          subst e3c
          clear e1b e2b e3b
          obtain ⟨b6, z6, rfl, hbl6, hcell6⟩ := hci k _ hp2
          have haw : (aheadL l)[k]? = some (aheadN l k) := by unfold aheadL; rw [List.getElem?_map, List.getElem?_range (by rw [← HNP.out]; exact hp)]; rfl
          obtain ⟨b7, z7, rfl, hbl7, hcell7⟩ := hcw k _ haw
          have f2 : World.cell? wr ⟨fb, 2, none⟩ = some (.slice (some ⟨b7, z7, none⟩) NP ca) := (cell_of H1.out.fin 2).trans (congrArg some EA.out)
          have hAND := bits_and1 (u >>> k) (Nat.lt_of_le_of_lt (Nat.shiftRight_le _ _) HUL.out)
          have hbit := shr_bit u k
          rw [show u.testBit k = row.contains (np : Int) by rw [HU.out]; exact bit_mask hp2] at hbit
          have hANN := bits_andNot (aheadN l k) u
          have HRD := ready_mask (row := row) (by omega) hp2
          rw [← HU.out] at HRD
          obtain ⟨an, han⟩ : ∃ x, x = aheadN l k := ⟨_, rfl⟩
          rw [shr_int] at hAND
          rw [← han] at hANN hcell7 HRD
          obtain ⟨x1, hx1⟩ : ∃ x, x = (u >>> k) &&& 1 := ⟨_, rfl⟩
          obtain ⟨y1, hy1⟩ : ∃ x, x = without an u := ⟨_, rfl⟩
          rw [← hx1] at hAND hbit
          rw [← hy1] at hANN HRD
          clear han hx1 hy1 haw hci hcw hp2 HM0
          have HRY := Lib.hid HRD
          clear HRD hPow
          cases hcon : row.contains (np : Int) with
          | true =>
            rw [hcon, if_pos rfl] at hbit
            subst hbit
            have hAND' : bits .and .u64 ((u : Int) / 2 ^ k) 1 = 1 := hAND
            clear hAND
            have HMAY := Lib.hid (show mayB l row (np : Int) = false by unfold mayB; rw [hcon]; rfl)
            clear hcon hcq0 hq
            go_wp2_with fail
            refine ⟨⟨k + 1, by omega, by go_num, ?_⟩, by show NP - ((k : Int) + 1).toNat < NP - (k : Int).toNat; omega⟩
            exact HR.out.skip HP2.out HMAY.out
          | false =>
            rw [hcon] at hbit
            simp only [Bool.false_eq_true, if_false] at hbit
            subst hbit
            have hAND' : bits .and .u64 ((u : Int) / 2 ^ k) 1 = 0 := hAND
            clear hAND
            by_cases hy : y1 = 0
            case neg =>
              have hb : ((y1 : Int) != 0) = true := by simp; omega
              have HMAY := Lib.hid (show mayB l row (np : Int) = false by unfold mayB; rw [← HRY.out, decide_eq_false hy]; simp)
              clear hcon hcq0 hq hy
              go_wp2_with fail
              refine ⟨⟨k + 1, by omega, by go_num, ?_⟩, by show NP - ((k : Int) + 1).toNat < NP - (k : Int).toNat; omega⟩
              exact HR.out.skip HP2.out HMAY.out
            subst hy
            have hANN' : bits .andNot .u64 (an : Int) (u : Int) = 0 := hANN
            clear hANN
            have HCON := Lib.hid hcon
            obtain ⟨hpq, s1, s2, s3, s4, b2, z2, rfl, hbl2, hcq⟩ := hcq0 np q hq
            obtain ⟨⟨ct, ci, ⟨ok, okey, oval, oold⟩, cb, ce, cd, ⟨re, rh, rd, rvl, rn, rp⟩⟩, pvl⟩ := q
            dsimp only at hpq s1 s2 s3 s4 hcq
            obtain ⟨Ap, cp, ep, _⟩ := id hpq
            rw [ep] at hcq hpq
            have f0 : World.cell? wr ⟨fb, 0, none⟩ = some (.slice (some ⟨b2, z2, none⟩) l.length cc) := (cell_of H1.out.fin 0).trans (congrArg some EC.out)
            have k0 : World.cell? wr ⟨b2, z2 + np * 15, none⟩ = some (.int .i64 ct) := hcq 0 _ rfl
            have k1 : World.cell? wr ⟨b2, z2 + np * 15 + 1, none⟩ = some (.int .i64 ci) := hcq 1 _ rfl
            have k2 : World.cell? wr ⟨b2, z2 + np * 15 + 2, none⟩ = some (.int .i64 ok) := hcq 2 _ rfl
            have k3 : World.cell? wr ⟨b2, z2 + np * 15 + 3, none⟩ = some (.string okey) := hcq 3 _ rfl
            have k4 : World.cell? wr ⟨b2, z2 + np * 15 + 4, none⟩ = some (.string oval) := hcq 4 _ rfl
            have k5 : World.cell? wr ⟨b2, z2 + np * 15 + 5, none⟩ = some (.string oold) := hcq 5 _ rfl
            have k6 : World.cell? wr ⟨b2, z2 + np * 15 + 6, none⟩ = some (.int .i64 cb) := hcq 6 _ rfl
            have k7 : World.cell? wr ⟨b2, z2 + np * 15 + 7, none⟩ = some (.int .i64 ce) := hcq 7 _ rfl
            have k8 : World.cell? wr ⟨b2, z2 + np * 15 + 8, none⟩ = some (.bool cd) := hcq 8 _ rfl
            have k9 : World.cell? wr ⟨b2, z2 + np * 15 + 9, none⟩ = some (.int .i64 re) := hcq 9 _ rfl
            have k10 : World.cell? wr ⟨b2, z2 + np * 15 + 10, none⟩ = some (.bool rh) := hcq 10 _ rfl
            have k11 : World.cell? wr ⟨b2, z2 + np * 15 + 11, none⟩ = some (.bool rd) := hcq 11 _ rfl
            have k12 : World.cell? wr ⟨b2, z2 + np * 15 + 12, none⟩ = some (.string rvl) := hcq 12 _ rfl
            have k13 : World.cell? wr ⟨b2, z2 + np * 15 + 13, none⟩ = some (.int .i64 rn) := hcq 13 _ rfl
            have k14 : World.cell? wr ⟨b2, z2 + np * 15 + 14, none⟩ = some (.slice Ap rp.length cp) := hcq 14 _ rfl
            have HPR4 := Lib.hid (HPr.out wr ((Fr.of_below B3.out).trans (Nx.refl _ _) HFR.out))
            have HPQ := Lib.hid hpq
            have HZ := Lib.hid (And.intro s2 s3)
            have HLQ := Lib.hid (hlp np _ hq)
            obtain ⟨W4, hW4⟩ : ∃ W, W = wr.alloc (.cells #[.int .i64 ct, .int .i64 ci, .int .i64 ok, .string okey, .string oval, .string oold, .int .i64 cb, .int .i64 ce, .bool cd, .int .i64 re, .bool rh, .bool rd, .string rvl, .int .i64 rn, .slice Ap rp.length cp] 44) := ⟨_, rfl⟩
            have B4 := Lib.hid (show Below wr.heap.size wr W4 by rw [hW4]; exact (Below.refl _ _).alloc (Nat.le_refl _) _)
            have X4 := Lib.hid (show W4.heap[wr.heap.size]? = some (.cells #[.int .i64 ct, .int .i64 ci, .int .i64 ok, .string okey, .string oval, .string oold, .int .i64 cb, .int .i64 ce, .bool cd, .int .i64 re, .bool rh, .bool rd, .string rvl, .int .i64 rn, .slice Ap rp.length cp] 44 (0, 0)) by rw [hW4]; exact heap_alloc_new wr _)
            have HW4 := Lib.hid hW4
            have HBA := Lib.hid (show behindM l (row ++ [(np : Int)]) = stepM (behindM l row) ⟨ct, ci, ⟨ok, okey, oval, oold⟩, cb, ce, cd, ⟨re, rh, rd, rvl, rn, rp⟩⟩ by rw [behind_app]; unfold stepAt; rw [HM.out, Int.toNat_natCast, HQ.out]; rfl)
            have HAB := Lib.hid (show allowB l row (np : Int) = (!cd || allowsB (behindM l row) ⟨ok, okey, oval, oold⟩ ⟨re, rh, rd, rvl, rn, rp⟩) by unfold allowB; rw [Int.toNat_natCast, HQ.out])
            have CA := Lib.hid (allows_owns W4 mv0 (behindM l row) (HPR4.out.below B4.out) HSO.out (by have := HLM.out; omega) ok okey oval oold HZ.out ⟨re, rh, rd, rvl, rn, rp⟩ (.slice Ap rp.length cp) (HPQ.out.below B4.out) HLQ.out)
            obtain ⟨al, hal⟩ : ∃ x, x = allowsB (behindM l row) ⟨ok, okey, oval, oold⟩ ⟨re, rh, rd, rvl, rn, rp⟩ := ⟨_, rfl⟩
            rw [← hal] at CA HAB
            have HAL := Lib.hid hal
            have HRD2 := Lib.hid (show readyB l row (np : Int) = true by rw [← HRY.out]; rfl)
            clear hal hcq0 hq hpq ep hcq hW4 s1 s2 s3 s4 hcon
            go_wp2_with fail
            rw [← HW4.out]
            refine CA.out.mono ?_
            rintro e w6 ⟨v5, rfl, ho5, hb6⟩
            clear k0 k1 k2 k3 k4 k5 k6 k7 k8 k9 k10 k11 k12 k13 k14 f0 f2 hcell6 hcell7 hAND' hANN'
            obtain ⟨cB, hcB⟩ : ∃ x, x = wr.heap.size := ⟨_, rfl⟩
            rw [← hcB] at X4
            rw [← hcB]
            have hcBl : cB < W4.heap.size := (Array.getElem?_eq_some_iff.1 X4.out).1
            have hxd := (hb6.block cB hcBl).trans X4.out
            have X6 := Lib.hid hxd
            have O5 := Lib.hid ho5
            have B6 := Lib.hid (B4.out.trans (hb6.mono B4.out.size))
            have hcBl6 : cB < w6.heap.size := Nat.lt_of_lt_of_le hcBl hb6.size
            have d0 : World.cell? w6 ⟨cB, 0, none⟩ = some (.int .i64 ct) := cell_of hxd 0
            have d1 : World.cell? w6 ⟨cB, 1, none⟩ = some (.int .i64 ci) := cell_of hxd 1
            have d2 : World.cell? w6 ⟨cB, 2, none⟩ = some (.int .i64 ok) := cell_of hxd 2
            have d3 : World.cell? w6 ⟨cB, 3, none⟩ = some (.string okey) := cell_of hxd 3
            have d4 : World.cell? w6 ⟨cB, 4, none⟩ = some (.string oval) := cell_of hxd 4
            have d5 : World.cell? w6 ⟨cB, 5, none⟩ = some (.string oold) := cell_of hxd 5
            have d6 : World.cell? w6 ⟨cB, 6, none⟩ = some (.int .i64 cb) := cell_of hxd 6
            have d7 : World.cell? w6 ⟨cB, 7, none⟩ = some (.int .i64 ce) := cell_of hxd 7
            have d8 : World.cell? w6 ⟨cB, 8, none⟩ = some (.bool cd) := cell_of hxd 8
            have d9 : World.cell? w6 ⟨cB, 9, none⟩ = some (.int .i64 re) := cell_of hxd 9
            have d10 : World.cell? w6 ⟨cB, 10, none⟩ = some (.bool rh) := cell_of hxd 10
            have d11 : World.cell? w6 ⟨cB, 11, none⟩ = some (.bool rd) := cell_of hxd 11
            have d12 : World.cell? w6 ⟨cB, 12, none⟩ = some (.string rvl) := cell_of hxd 12
            have d13 : World.cell? w6 ⟨cB, 13, none⟩ = some (.int .i64 rn) := cell_of hxd 13
            have d14 : World.cell? w6 ⟨cB, 14, none⟩ = some (.slice Ap rp.length cp) := cell_of hxd 14
            clear hxd ho5 hb6
            cases cd with
            | false =>
              have HMAY := Lib.hid (show mayB l row (np : Int) = true by unfold mayB; rw [HCON.out, HRD2.out, HAB.out]; rfl)
              have HBM := Lib.hid (show behindM l (row ++ [(np : Int)]) = doM (behindM l row) ⟨ok, okey, oval, oold⟩ by rw [HBA.out]; rfl)
              clear hcB
              go_wp2_with fail
              refine (do_owns w6 mv0 (behindM l row) (HPR4.out.below B6.out) HSO.out (by have := HLM.out; omega) ok okey oval oold HZ.out).mono ?_
              rintro e w8 ⟨v8, p8, rfl, ho8, _, hb8⟩
              have O8 := Lib.hid ho8
              have B68 := Lib.hid (B6.out.trans (hb8.mono B6.out.size))
              clear ho8 hb8 d0 d1 d2 d3 d4 d5 d6 d7 d8 d9 d10 d11 d12 d13 d14 B6
              have B6 := B68
              clear B68
              obtain ⟨W7, hW7⟩ : ∃ W, W = w8.alloc (.cells #[.int .i64 (np : Int)] 3) := ⟨_, rfl⟩
              have B7 := Lib.hid (show Below w8.heap.size w8 W7 by rw [hW7]; exact (Below.refl _ _).alloc (Nat.le_refl _) _)
              have hc7 : ∀ j u, [Value.int .i64 (np : Int)][j]? = some u → W7.cell? ((⟨w8.heap.size, 0, none⟩ : Addr).add j) = some u := by rw [hW7]; exact cell_one_new _ _ _
              have HC7 := Lib.hid hc7
              have HW7 := Lib.hid hW7
              have H6 := Lib.hid (H1.out.below B6.out)
              have H7 := Lib.hid (H6.out.below B7.out)
              have O7 := Lib.hid (owns_below O8.out B7.out)
              have hb6s : base ≤ W7.heap.size := Nat.le_trans hbase (Nat.le_trans SZ.out (Nat.le_trans B6.out.size B7.out.size))
              clear hc7 hW7
              have f5 : World.cell? w8 ⟨fb, 5, none⟩ = some rv1 := cell_of H6.out.fin 5
              have hSH := wrap_pow k hk64
              have hlu : 2 ^ k < 2 ^ 64 := Nat.pow_lt_pow_right (by decide) hk64
              have hOR := bits_or u (2 ^ k) HUL.out hlu
              rw [show u ||| 2 ^ k = maskR l (row ++ [(np : Int)]) by rw [HU.out]; exact mask_snoc HP2.out] at hOR
              obtain ⟨pw, hpw⟩ : ∃ x, x = 2 ^ k := ⟨_, rfl⟩
              obtain ⟨um, hum⟩ : ∃ x, x = maskR l (row ++ [(np : Int)]) := ⟨_, rfl⟩
              rw [← hpw] at hSH hOR
              rw [← hum] at hOR
              have HUM := Lib.hid hum
              clear hpw hlu hum
              go_wp2_with (at_builtin; rw [← HW7.out]; refine wpList_append_own_at _ rfl _ _ 23 rfl base 3 i0 (.int .i64 0) 1 8 Tryz.underlying23 hi hz0 hz1 hz2 rfl (by decide) _ _ _ rfl H7.out.own _ 1 1 [.int .i64 (np : Int)] rfl rfl HC7.out (by simp [Value.oneCell']) (by simp [maxLen]; omega) (by omega) hb6s ?_; intro v9 w9 hown9 hgrow9 hnil9 hblk9; obtain ⟨A9, cp9, e9⟩ := owns_shape hown9; subst e9; have HO := Lib.hid hown9; have HG := Lib.hid hgrow9; have HK := Lib.hid hblk9; clear hown9 hgrow9 hnil9 hblk9; have H9 := Lib.hid ((HG.out.block fb H7.out.lt H7.out.rf).trans H7.out.fin); have c9 : World.cell? w9 ⟨fb, 5, none⟩ = some rv1 := cell_of H9.out 5; have g9 : w9.frozen? ⟨fb, 5, none⟩ = false := frozen_of H9.out 5)
              obtain ⟨W9, hW9⟩ : ∃ W, W = w9.setCell ⟨fb, 5, none⟩ (.slice A9 (row.length + 1) cp9) := ⟨_, rfl⟩
              rw [← hW9]
              have HF9 := Lib.hid (show Fs base fb mb n1 cv0 pv0 av0 (.slice A9 (row.length + 1) cp9) l tours (row ++ [(np : Int)]) W9 by rw [hW9]; exact H6.out.push B7.out (by simpa using HO.out) HG.out)
              have OW9 := Lib.hid (show W9.ownsRow 0 74 2 v8 (behindM l (row ++ [(np : Int)])).length (cellsP (behindM l (row ++ [(np : Int)]))) by rw [hW9, HBM.out]; exact own_pair_set (own_pair_grow (owns_lift O7.out (Nat.zero_le _)) H7.out.own HG.out) H9.out)
              have FR9 := Lib.hid (show Fr fb mb rv1 wr W9 by
                rw [hW9]
                have e1 : Fr fb mb rv1 wr W7 := Fr.of_below (B6.out.trans (B7.out.mono B6.out.size))
                have e2 : Fr fb mb rv1 W7 w9 := Fr.of_grown HG.out (fun g hg => Or.inr (Or.inr hg.symm))
                have e3 : Fr fb mb rv1 w9 (w9.setCell ⟨fb, 5, none⟩ (.slice A9 (row.length + 1) cp9)) := Fr.set w9 5 (.slice A9 (row.length + 1) cp9)
                exact (e1.trans (Nx.refl _ _) e2).trans (Nx.refl _ _) e3)
              have NX9 := Lib.hid (show Nx wr rv1 (.slice A9 (row.length + 1) cp9) from by
                rcases HK.out with e | e
                · exact Or.inl e
                · exact Or.inr ⟨_, e, Nat.le_trans B6.out.size B7.out.size⟩)
              have hgs := HG0.out.snoc HM.out HMAY.out
              have hfl := good_len hgs
              obtain ⟨f', rfl⟩ : ∃ f', f = f' + 1 := ⟨f - 1, by have := HLEN.out; simp at hfl; omega⟩
              have hcn : n1 + cnt (plc l).length (f' + 1) ≤ 20000000000 := by
                have h1 := HN1.out
                have h2 : (k + 1) * cnt (plc l).length (f' + 1) ≤ (plc l).length * cnt (plc l).length (f' + 1) := Nat.mul_le_mul_right _ (by rw [← HNP.out]; omega)
                have h3 := HCNT.out
                have h4 : cnt (plc l).length (f' + 1 + 1) = 1 + (plc l).length * cnt (plc l).length (f' + 1) := rfl
                rw [Nat.add_mul] at h2
                omega
              have IH := Lib.hid (ih f' (by omega) W9 base fb mb n1 cv0 pv0 av0 (.slice A9 (row.length + 1) cp9) v8 (row ++ [(np : Int)]) HF9.out ((HD3.out.step (HFR.out.trans HNX.out FR9.out) (HNX.out.trans NX9.out HFR.out.size))) (HF9.out.stPrs OW9.out) (Nat.le_trans hb6s (Nat.le_trans HG.out.size (by rw [hW9]; simp [World.setCell]))) hgs (by have := HLEN.out; simp; omega) hcn)
              rw [← HUM.out] at IH
              have HW9 := Lib.hid hW9
              clear hgs hfl hcn hW9 hSH hOR
              refine IH.out.mono ?_
              rintro e w10 ⟨rv3, n3, he, hF3, hn3, hFr3, hNx3⟩
              have HFR3 := Lib.hid ((HFR.out.trans HNX.out FR9.out).trans (HNX.out.trans NX9.out HFR.out.size) hFr3)
              have HNX3 := Lib.hid ((HNX.out.trans NX9.out HFR.out.size).trans hNx3 (HFR.out.trans HNX.out FR9.out).size)
              have HN3 := Lib.hid (show n3 ≤ n + (k + 1) * cnt (plc l).length (f' + 1) by
                have h1 := HN1.out
                rw [Nat.add_mul]
                omega)
              have HSTP := Lib.hid (show stepS l tours (f' + 1) row (np : Int) = searchM l tours f' (row ++ [(np : Int)]) by unfold stepS; rw [HMAY.out]; rfl)
              clear hFr3 hNx3 hn3
              cases hsr : searchM l tours f' (row ++ [(np : Int)]) with
              | some r =>
                rw [hsr] at he hF3
                subst he
                have HF3 := Lib.hid hF3
                have HRES := Lib.hid (show searchM l tours (f' + 1) row = some r by rw [HS.out, fs_at HP2.out HNO.out (by rw [HSTP.out, hsr]; exact fun e => by cases e), HSTP.out, hsr])
                clear hF3 hsr
                go_wp2_with fail
                go_ret
                refine ⟨rv3, n3, by rw [HRES.out]; rfl, ?_, ?_, ?_, ?_⟩
                · rw [HRES.out]; exact HF3.out
                · have h1 := HN3.out
                  have h2 : (k + 1) * cnt (plc l).length (f' + 1) ≤ (plc l).length * cnt (plc l).length (f' + 1) := Nat.mul_le_mul_right _ (by rw [← HNP.out]; omega)
                  have h4 : cnt (plc l).length (f' + 1 + 1) = 1 + (plc l).length * cnt (plc l).length (f' + 1) := rfl
                  omega
                · exact (Fr.of_below B3.out).trans (Nx.refl _ _) HFR3.out
                · exact (Nx.refl _ _).trans HNX3.out B3.out.size
              | none =>
                rw [hsr] at he hF3
                subst he
                obtain ⟨A3, c3, e3⟩ := owns_shape hF3.own
                obtain ⟨k3, hk3⟩ : ∃ x, x = (Option.getD (none : Option (List Int)) (row ++ [(np : Int)])).length := ⟨_, rfl⟩
                rw [← hk3] at e3
                subst e3
                obtain ⟨hpop, ek3, hcap3, hA3⟩ := Fs.pop hF3
                clear hk3
                subst ek3
                obtain ⟨⟨g3, o3, i3⟩, rfl⟩ := Option.isSome_iff_exists.1 hA3
                have f53 : World.cell? w10 ⟨fb, 5, none⟩ = some (.slice (some ⟨g3, o3, i3⟩) (row.length + 1) c3) := cell_of hF3.fin 5
                have g53 : w10.frozen? ⟨fb, 5, none⟩ = false := frozen_of hF3.fin 5
                have HPOP := Lib.hid hpop
                have HLT3 := Lib.hid hF3.lt
                have HNO2 := Lib.hid (take_all HP2.out HNO.out (show stepS l tours (f' + 1) row (np : Int) = none by rw [HSTP.out, hsr]))
                obtain ⟨rl, hrl⟩ : ∃ x, x = row.length := ⟨_, rfl⟩
                rw [← hrl] at f53 hcap3 HPOP hrow9
                clear hpop hF3 hsr hA3 hrl
                have hs1 : (0 : Int) ≤ (rl : Int) := by omega
                have hs2 : (rl : Int) ≤ (c3 : Int) := by omega
                go_wp2_with fail
                go_region
                go_wp2_with fail
                refine ⟨⟨k + 1, by omega, by go_num, ?_⟩, by show NP - ((k : Int) + 1).toNat < NP - (k : Int).toNat; omega⟩
                exact ⟨_, n3, HPOP.out.drew, HN3.out, (HFR3.out.trans HNX3.out (Fr.set w10 5 _)).drew, HNX3.out, HNO2.out⟩
            | true =>
              cases al with
              | false =>
                have HMAY := Lib.hid (show mayB l row (np : Int) = false by unfold mayB; rw [HAB.out]; simp)
                clear hcB
                go_wp2_with fail
                refine ⟨⟨k + 1, by omega, by go_num, ?_⟩, by show NP - ((k : Int) + 1).toNat < NP - (k : Int).toNat; omega⟩
                exact (HR.out.skip HP2.out HMAY.out).below B6.out
              | true =>
                have HMAY := Lib.hid (show mayB l row (np : Int) = true by unfold mayB; rw [HCON.out, HRD2.out, HAB.out]; rfl)
                have HBM := Lib.hid (show behindM l (row ++ [(np : Int)]) = allowsM (behindM l row) ⟨ok, okey, oval, oold⟩ ⟨re, rh, rd, rvl, rn, rp⟩ by rw [HBA.out, allows_step HAL.out.symm ct ci cb ce])
                clear hcB d0 d1 d2 d3 d4 d5 d6 d7 d9 d10 d11 d12 d13 d14
                obtain ⟨W7, hW7⟩ : ∃ W, W = w6.alloc (.cells #[.int .i64 (np : Int)] 3) := ⟨_, rfl⟩
                have B7 := Lib.hid (show Below w6.heap.size w6 W7 by rw [hW7]; exact (Below.refl _ _).alloc (Nat.le_refl _) _)
                have hc7 : ∀ j u, [Value.int .i64 (np : Int)][j]? = some u → W7.cell? ((⟨w6.heap.size, 0, none⟩ : Addr).add j) = some u := by rw [hW7]; exact cell_one_new _ _ _
                have HC7 := Lib.hid hc7
                have HW7 := Lib.hid hW7
                have H6 := Lib.hid (H1.out.below B6.out)
                have H7 := Lib.hid (H6.out.below B7.out)
                have O7 := Lib.hid (owns_below O5.out B7.out)
                have hb6s : base ≤ W7.heap.size := Nat.le_trans hbase (Nat.le_trans SZ.out (Nat.le_trans B6.out.size B7.out.size))
                clear hc7 hW7
                have f5 : World.cell? w6 ⟨fb, 5, none⟩ = some rv1 := cell_of H6.out.fin 5
                have hSH := wrap_pow k hk64
                have hlu : 2 ^ k < 2 ^ 64 := Nat.pow_lt_pow_right (by decide) hk64
                have hOR := bits_or u (2 ^ k) HUL.out hlu
                rw [show u ||| 2 ^ k = maskR l (row ++ [(np : Int)]) by rw [HU.out]; exact mask_snoc HP2.out] at hOR
                obtain ⟨pw, hpw⟩ : ∃ x, x = 2 ^ k := ⟨_, rfl⟩
                obtain ⟨um, hum⟩ : ∃ x, x = maskR l (row ++ [(np : Int)]) := ⟨_, rfl⟩
                rw [← hpw] at hSH hOR
                rw [← hum] at hOR
                have HUM := Lib.hid hum
                clear hpw hlu hum
                go_wp2_with (at_builtin; rw [← HW7.out]; refine wpList_append_own_at _ rfl _ _ 23 rfl base 3 i0 (.int .i64 0) 1 8 Tryz.underlying23 hi hz0 hz1 hz2 rfl (by decide) _ _ _ rfl H7.out.own _ 1 1 [.int .i64 (np : Int)] rfl rfl HC7.out (by simp [Value.oneCell']) (by simp [maxLen]; omega) (by omega) hb6s ?_; intro v9 w9 hown9 hgrow9 hnil9 hblk9; obtain ⟨A9, cp9, e9⟩ := owns_shape hown9; subst e9; have HO := Lib.hid hown9; have HG := Lib.hid hgrow9; have HK := Lib.hid hblk9; clear hown9 hgrow9 hnil9 hblk9; have H9 := Lib.hid ((HG.out.block fb H7.out.lt H7.out.rf).trans H7.out.fin); have c9 : World.cell? w9 ⟨fb, 5, none⟩ = some rv1 := cell_of H9.out 5; have g9 : w9.frozen? ⟨fb, 5, none⟩ = false := frozen_of H9.out 5)
                obtain ⟨W9, hW9⟩ : ∃ W, W = w9.setCell ⟨fb, 5, none⟩ (.slice A9 (row.length + 1) cp9) := ⟨_, rfl⟩
                rw [← hW9]
                have HF9 := Lib.hid (show Fs base fb mb n1 cv0 pv0 av0 (.slice A9 (row.length + 1) cp9) l tours (row ++ [(np : Int)]) W9 by rw [hW9]; exact H6.out.push B7.out (by simpa using HO.out) HG.out)
                have OW9 := Lib.hid (show W9.ownsRow 0 74 2 v5 (behindM l (row ++ [(np : Int)])).length (cellsP (behindM l (row ++ [(np : Int)]))) by rw [hW9, HBM.out]; exact own_pair_set (own_pair_grow (owns_lift O7.out (Nat.zero_le _)) H7.out.own HG.out) H9.out)
                have FR9 := Lib.hid (show Fr fb mb rv1 wr W9 by
                  rw [hW9]
                  have e1 : Fr fb mb rv1 wr W7 := Fr.of_below (B6.out.trans (B7.out.mono B6.out.size))
                  have e2 : Fr fb mb rv1 W7 w9 := Fr.of_grown HG.out (fun g hg => Or.inr (Or.inr hg.symm))
                  have e3 : Fr fb mb rv1 w9 (w9.setCell ⟨fb, 5, none⟩ (.slice A9 (row.length + 1) cp9)) := Fr.set w9 5 (.slice A9 (row.length + 1) cp9)
                  exact (e1.trans (Nx.refl _ _) e2).trans (Nx.refl _ _) e3)
                have NX9 := Lib.hid (show Nx wr rv1 (.slice A9 (row.length + 1) cp9) from by
                  rcases HK.out with e | e
                  · exact Or.inl e
                  · exact Or.inr ⟨_, e, Nat.le_trans B6.out.size B7.out.size⟩)
                have hgs := HG0.out.snoc HM.out HMAY.out
                have hfl := good_len hgs
                obtain ⟨f', rfl⟩ : ∃ f', f = f' + 1 := ⟨f - 1, by have := HLEN.out; simp at hfl; omega⟩
                have hcn : n1 + cnt (plc l).length (f' + 1) ≤ 20000000000 := by
                  have h1 := HN1.out
                  have h2 : (k + 1) * cnt (plc l).length (f' + 1) ≤ (plc l).length * cnt (plc l).length (f' + 1) := Nat.mul_le_mul_right _ (by rw [← HNP.out]; omega)
                  have h3 := HCNT.out
                  have h4 : cnt (plc l).length (f' + 1 + 1) = 1 + (plc l).length * cnt (plc l).length (f' + 1) := rfl
                  rw [Nat.add_mul] at h2
                  omega
                have IH := Lib.hid (ih f' (by omega) W9 base fb mb n1 cv0 pv0 av0 (.slice A9 (row.length + 1) cp9) v5 (row ++ [(np : Int)]) HF9.out ((HD3.out.step (HFR.out.trans HNX.out FR9.out) (HNX.out.trans NX9.out HFR.out.size))) (HF9.out.stPrs OW9.out) (Nat.le_trans hb6s (Nat.le_trans HG.out.size (by rw [hW9]; simp [World.setCell]))) hgs (by have := HLEN.out; simp; omega) hcn)
                rw [← HUM.out] at IH
                have HW9 := Lib.hid hW9
                clear hgs hfl hcn hW9 hSH hOR
                refine IH.out.mono ?_
                rintro e w10 ⟨rv3, n3, he, hF3, hn3, hFr3, hNx3⟩
                have HFR3 := Lib.hid ((HFR.out.trans HNX.out FR9.out).trans (HNX.out.trans NX9.out HFR.out.size) hFr3)
                have HNX3 := Lib.hid ((HNX.out.trans NX9.out HFR.out.size).trans hNx3 (HFR.out.trans HNX.out FR9.out).size)
                have HN3 := Lib.hid (show n3 ≤ n + (k + 1) * cnt (plc l).length (f' + 1) by
                  have h1 := HN1.out
                  rw [Nat.add_mul]
                  omega)
                have HSTP := Lib.hid (show stepS l tours (f' + 1) row (np : Int) = searchM l tours f' (row ++ [(np : Int)]) by unfold stepS; rw [HMAY.out]; rfl)
                clear hFr3 hNx3 hn3
                cases hsr : searchM l tours f' (row ++ [(np : Int)]) with
                | some r =>
                  rw [hsr] at he hF3
                  subst he
                  have HF3 := Lib.hid hF3
                  have HRES := Lib.hid (show searchM l tours (f' + 1) row = some r by rw [HS.out, fs_at HP2.out HNO.out (by rw [HSTP.out, hsr]; exact fun e => by cases e), HSTP.out, hsr])
                  clear hF3 hsr
                  go_wp2_with fail
                  go_ret
                  refine ⟨rv3, n3, by rw [HRES.out]; rfl, ?_, ?_, ?_, ?_⟩
                  · rw [HRES.out]; exact HF3.out
                  · have h1 := HN3.out
                    have h2 : (k + 1) * cnt (plc l).length (f' + 1) ≤ (plc l).length * cnt (plc l).length (f' + 1) := Nat.mul_le_mul_right _ (by rw [← HNP.out]; omega)
                    have h4 : cnt (plc l).length (f' + 1 + 1) = 1 + (plc l).length * cnt (plc l).length (f' + 1) := rfl
                    omega
                  · exact (Fr.of_below B3.out).trans (Nx.refl _ _) HFR3.out
                  · exact (Nx.refl _ _).trans HNX3.out B3.out.size
                | none =>
                  rw [hsr] at he hF3
                  subst he
                  obtain ⟨A3, c3, e3⟩ := owns_shape hF3.own
                  obtain ⟨k3, hk3⟩ : ∃ x, x = (Option.getD (none : Option (List Int)) (row ++ [(np : Int)])).length := ⟨_, rfl⟩
                  rw [← hk3] at e3
                  subst e3
                  obtain ⟨hpop, ek3, hcap3, hA3⟩ := Fs.pop hF3
                  clear hk3
                  subst ek3
                  obtain ⟨⟨g3, o3, i3⟩, rfl⟩ := Option.isSome_iff_exists.1 hA3
                  have f53 : World.cell? w10 ⟨fb, 5, none⟩ = some (.slice (some ⟨g3, o3, i3⟩) (row.length + 1) c3) := cell_of hF3.fin 5
                  have g53 : w10.frozen? ⟨fb, 5, none⟩ = false := frozen_of hF3.fin 5
                  have HPOP := Lib.hid hpop
                  have HLT3 := Lib.hid hF3.lt
                  have HNO2 := Lib.hid (take_all HP2.out HNO.out (show stepS l tours (f' + 1) row (np : Int) = none by rw [HSTP.out, hsr]))
                  obtain ⟨rl, hrl⟩ : ∃ x, x = row.length := ⟨_, rfl⟩
                  rw [← hrl] at f53 hcap3 HPOP hrow9
                  clear hpop hF3 hsr hA3 hrl
                  have hs1 : (0 : Int) ≤ (rl : Int) := by omega
                  have hs2 : (rl : Int) ≤ (c3 : Int) := by omega
                  go_wp2_with fail
                  go_region
                  go_wp2_with fail
                  refine ⟨⟨k + 1, by omega, by go_num, ?_⟩, by show NP - ((k : Int) + 1).toNat < NP - (k : Int).toNat; omega⟩
                  exact ⟨_, n3, HPOP.out.drew, HN3.out, (HFR3.out.trans HNX3.out (Fr.set w10 5 _)).drew, HNX3.out, HNO2.out⟩
        · obtain rfl : k = NP := by omega
          have HALL := Lib.hid (show searchM l tours f row = none by
            rw [HS.out, List.findSome?_eq_none_iff]
            intro x hx
            exact HNO.out x (by rw [List.take_of_length_le (by rw [← HNP.out]; exact Nat.le_refl _)]; exact hx))
          obtain ⟨D1, hD1, hMe1⟩ := H1.out.map
          have hD2 : OwnM wr.drew mb n1 D1 := hD1
          have hn1l : n1 < maxLen := by
            have h1 := HN1.out
            have h3 := HCNT.out
            have h4 : cnt (plc l).length (f + 1) = 1 + (plc l).length * cnt (plc l).length f := rfl
            rw [HNP.out] at h1
            unfold maxLen
            omega
          obtain ⟨c1', v01, st1, w21, hat1, hwc1, hlk1, hme1, hlk2, hg2, hst⟩ := bump_own hD2 hn1l HKL.out
          obtain ⟨w41, hes, hD4, hg4⟩ := hst (IntKind.i64.wrap (c1' + 1)) (WalkArith.wf_i64 (by simp only [IntKind.wrap_i64]; omega))
          have HD4 := Lib.hid hD4
          have HG4 := Lib.hid (show wr.grownBy w41 (some mb) from ⟨hg4.os, hg4.tape, hg4.output, hg4.size, hg4.block⟩)
          have HME1 := Lib.hid hMe1
          have X9 := Lib.hid ((HFR.out.block ab (Array.getElem?_eq_some_iff.1 X3.out).1 HABF.out HABM.out HABR.out).trans X3.out)
          have f4 : World.cell? wr ⟨fb, 4, none⟩ = some (.map (some mb)) := cell_of H1.out.fin 4
          have a0 : World.cell? wr ⟨ab, 0, none⟩ = some (.int .u64 (u : Int)) := cell_of X9.out 0
          have a1 : World.cell? wr ⟨ab, 1, none⟩ = some (.string s) := cell_of X9.out 1
          have f42 : World.cell? w21 ⟨fb, 4, none⟩ = some (.map (some mb)) := cell_of ((hg2.block fb H1.out.lt (fun e => H1.out.mf (Option.some.inj e).symm)).trans H1.out.fin) 4
          have xa2 := (hg2.block ab (Array.getElem?_eq_some_iff.1 X9.out).1 (fun e => HABM.out (Option.some.inj e))).trans X9.out
          have a02 : World.cell? w21 ⟨ab, 0, none⟩ = some (.int .u64 (u : Int)) := cell_of xa2 0
          have a12 : World.cell? w21 ⟨ab, 1, none⟩ = some (.string s) := cell_of xa2 1
          unfold goInt at hme1 hes
          clear hD1 hD2 hMe1 hat1 hwc1 hst hD4 hg4 xa2 hg2
          go_wp2_with fail
          go_region
          all_goals go_wp2_with fail
          all_goals go_ret
          all_goals refine ⟨rv1, n1 + 1, by rw [HALL.out]; rfl, ?_, ?_, ?_, ?_⟩
          all_goals first
            | (have h1 := HN1.out
               have h4 : cnt (plc l).length (f + 1) = 1 + (plc l).length * cnt (plc l).length f := rfl
               rw [HNP.out] at h1
               omega)
            | exact (Nx.refl _ _).trans HNX.out B3.out.size
            | exact (Fr.of_below B3.out).trans (Nx.refl _ _) (HFR.out.trans HNX.out (Fr.of_grown HG4.out (fun g hg => Or.inr (Or.inl (Option.some.inj hg).symm))))
            | (rw [HALL.out]
               refine ⟨(HG4.out.block fb H1.out.lt (fun e => H1.out.mf (Option.some.inj e).symm)).trans H1.out.fin, H1.out.own.kept HG4.out (by
                 rcases hcl : rv1.ownBlock with _ | g
                 · exact Or.inl rfl
                 · exact Or.inr (fun e => H1.out.rm (by rw [hcl, e]))), _, HD4.out, memo_put HME1.out HG0.out HLEN.out HST1.out (by rw [← HU.out]; exact HKL.out) HALL.out⟩)
end Go.Proofs.YtdhgacionopghaaGreatDoor.Ln
namespace Go.Proofs.YtdhgacionopghaaGreatDoor.Ln
open Go.RowKit Go.Shelf Dc DcM DcW DcI DcR DcL Sp Od Bq Bt
set_option linter.unusedVariables false
set_option linter.unusedSimpArgs false
def FPost (l : List CV) (tours : Bool) (f : Nat) (row : List Int) (w : World) (e : Ending) (w' : World) : Prop :=
  ∃ v', e = .returned (.tuple #[v', .bool (findM l tours f row).isSome]) ∧ Its w' v' ((findM l tours f row).getD []) ∧ Below w.heap.size w w'
theorem mask_nil (l : List CV) : maskR l [] = 0 := by
  unfold maskR
  rw [maskOf_congr (g := fun _ => false) (fun i _ => by unfold usedF; rfl), maskOf_zero]
theorem its_nil (w : World) : Its w (.slice none 0 0) [] := ⟨none, 0, rfl, Nat.le_refl _, fun j x hx => by simp at hx⟩
theorem its_any {w : World} {v : Value} {l : List Int} (h : Its w v l) : ∃ A cap, v = .slice A l.length cap := by
  obtain ⟨A, cap, e, _⟩ := h; exact ⟨A, cap, e⟩
set_option maxRecDepth 100000 in
set_option maxHeartbeats 8000000 in
theorem find_any (w : World) (v : Value) (l : List CV) (most : Nat) (tours : Bool) (hC : Cls w v l) (hsl : smallL l) (hP9 : (plc l).length ≤ 9) (hPm : (plc l).length ≤ most) (hmo : most ≤ 64) (hl : l.length < 1000000) (hpow : DgP.Pow w) :
    Calls Tryz.prog 24 #[v, .int .i64 (most : Int), .bool tours] w (FPost l tours (plc l).length [] w) := by
  have CN := Lib.hid (new_any w v l most hC hl hPm hmo)
  have HC := Lib.hid hC
  have HPW := Lib.hid hpow
  obtain ⟨A, cap, rfl, _⟩ := hC
  have hcn : 0 + cnt (plc l).length ((plc l).length + 1) ≤ 20000000000 := by
    have h1 := cnt_le hP9 ((plc l).length + 1)
    have h2 : 10 ^ ((plc l).length + 1) ≤ 10 ^ 10 := Nat.pow_le_pow_right (by decide) (by omega)
    have h3 : (10 : Nat) ^ 10 = 10000000000 := by decide
    omega
  have HCN := Lib.hid hcn
  clear hpow hcn
  go_enter Tryz.func24, Tryz.ntmps24
  go_wp2_with fail
  refine CN.out.mono ?_
  rintro e w1 ⟨fb, mb, pv, av, rfl, hF, hM, hSt, hfb, hmb, hb⟩
  have c6 : World.cell? w1 ⟨fb, 6, none⟩ = some (.bool false) := cell_of hF 6
  have g6 : w1.frozen? ⟨fb, 6, none⟩ = false := frozen_of hF 6
  obtain ⟨W2, hW2⟩ : ∃ W, W = w1.setCell ⟨fb, 6, none⟩ (.bool tours) := ⟨_, rfl⟩
  have hF2 : W2.heap[fb]? = some (.cells (finC (.slice A l.length cap) pv av (mustN l) mb (.slice none 0 0) tours) 65 (0, 0)) := by rw [hW2]; exact heap_set_at hF (.bool tours)
  have hne : mb ≠ fb := by
    intro e
    rw [e, hF] at hM
    cases hM
  have hM2 : W2.heap[mb]? = some (.map #[] 0) := by rw [hW2]; exact (Below.heap_setCell w1 ⟨fb, 6, none⟩ _ mb hne).trans hM
  have fr12 : Fr fb mb (.slice none 0 0) w1 W2 := by rw [hW2]; exact Fr.set w1 6 _
  have hs12 : w.heap.size ≤ W2.heap.size := Nat.le_trans hb.size fr12.size
  have hOM : OwnM W2 mb 0 (.map []) := ⟨#[], 0, hM2, ⟨by simp, MapKept.stamped_empty 0, by simp⟩, Nat.le_refl _, rfl⟩
  have HFs := Lib.hid (show Fs w.heap.size fb mb 0 (.slice A l.length cap) pv av (.slice none 0 0) l tours [] W2 from ⟨hF2, World.ownsRow_nil _ _ _ _, _, hOM, memo_nil l tours⟩)
  have hbel : ∀ w'', Fr fb mb (.slice none 0 0) W2 w'' → Below w.heap.size w w'' := fun w'' fr => hb.trans ((fr12.trans (Nx.refl _ _) fr).below hfb hmb (fun k hk => by cases hk) hb.size)
  have HBL := Lib.hid hbel
  have HSD := Lib.hid (show St fb mb (.slice none 0 0) W2 (Dat (.slice A l.length cap) pv av l) from fun w'' fr => by
    have h1 := hbel w'' fr
    have h2 := hSt w'' (fr12.trans (Nx.refl _ _) fr)
    exact ⟨HC.out.below h1, h2.1, h2.2, DgP.pow_below HPW.out h1⟩)
  have HS := search_any (tours := tours) hsl hP9 hl (plc l).length W2 w.heap.size fb mb 0 _ pv av (.slice none 0 0) (.slice none 0 0) [] HFs.out HSD.out (fun w'' _ => prs_nil w'') hs12 (Good.nil l) (by simp) HCN.out
  rw [mask_nil] at HS
  have HS' := Lib.hid (show Calls Tryz.prog 37 #[.pointer (some ⟨fb, 0, none⟩), .int .u64 0, .slice none 0 0] W2 _ from HS)
  have HW2 := Lib.hid hW2
  have HSF := Lib.hid (search_find (tours := tours) (plc l).length [] (Good.nil l))
  clear hF hM hSt hfb hmb hb hF2 hne hM2 fr12 hs12 hOM hbel HS hW2
  go_wp2_with fail
  rw [← HW2.out]
  refine HS'.out.mono ?_
  rintro e w3 ⟨rv', n', he, hF3, _, hFr, _⟩
  rw [HSF.out] at he hF3
  have HB3 := Lib.hid (HBL.out w3 hFr)
  clear hFr c6 g6
  cases hfm : findM l tours (plc l).length [] with
  | none =>
    rw [hfm] at he
    subst he
    have HFM := Lib.hid hfm
    clear hfm hF3
    go_wp2_with fail
    go_ret2
    exact ⟨_, by rw [HFM.out]; rfl, by rw [HFM.out]; exact its_nil w3, HB3.out⟩
  | some r =>
    rw [hfm] at he hF3
    subst he
    have HFM := Lib.hid hfm
    have HO := Lib.hid (its_of_owns hF3.own)
    obtain ⟨A3, c3, e3⟩ := owns_shape hF3.own
    subst e3
    have f5 : World.cell? w3 ⟨fb, 5, none⟩ = some (.slice A3 (Option.getD (some r) ([] : List Int)).length c3) := cell_of hF3.fin 5
    clear hfm hF3
    go_wp2_with fail
    go_ret2
    exact ⟨_, by rw [HFM.out]; rfl, by rw [HFM.out]; exact HO.out, HB3.out⟩
set_option maxHeartbeats 2000000 in
theorem Find_any (w : World) (v : Value) (l : List CV) (hC : Cls w v l) (hsl : smallL l) (hP9 : (plc l).length ≤ 9) (hl : l.length < 1000000) (hpow : DgP.Pow w) :
    Calls Tryz.prog 11 #[v] w (FPost l false (plc l).length [] w) := by
  have CF := Lib.hid (show Calls Tryz.prog 24 #[v, .int .i64 64, .bool false] w (FPost l false (plc l).length [] w) from find_any w v l 64 false hC hsl hP9 (by omega) (Nat.le_refl _) hl hpow)
  obtain ⟨A, cap, rfl, _⟩ := hC
  clear hpow
  go_enter Tryz.func11, Tryz.ntmps11
  go_wp2_with fail
  refine CF.out.mono ?_
  rintro e w1 ⟨v1, rfl, hi, hb⟩
  have HI := Lib.hid hi
  have HB := Lib.hid hb
  obtain ⟨A1, c1, e1⟩ := its_any hi
  subst e1
  clear hi hb
  go_wp2_with fail
  go_ret2
  exact ⟨_, rfl, HI.out, HB.out⟩
set_option maxHeartbeats 2000000 in
theorem Tours_any (w : World) (v : Value) (l : List CV) (hC : Cls w v l) (hsl : smallL l) (hP8 : (plc l).length ≤ 8) (hl : l.length < 1000000) (hpow : DgP.Pow w) :
    Calls Tryz.prog 13 #[v] w (FPost l true (plc l).length [] w) := by
  have CF := Lib.hid (show Calls Tryz.prog 24 #[v, .int .i64 8, .bool true] w (FPost l true (plc l).length [] w) from find_any w v l 8 true hC hsl (by omega) hP8 (by omega) hl hpow)
  obtain ⟨A, cap, rfl, _⟩ := hC
  clear hpow
  go_enter Tryz.func13, Tryz.ntmps13
  go_wp2_with fail
  refine CF.out.mono ?_
  rintro e w1 ⟨v1, rfl, hi, hb⟩
  have HI := Lib.hid hi
  have HB := Lib.hid hb
  obtain ⟨A1, c1, e1⟩ := its_any hi
  subst e1
  clear hi hb
  go_wp2_with fail
  go_ret2
  exact ⟨_, rfl, HI.out, HB.out⟩
end Go.Proofs.YtdhgacionopghaaGreatDoor.Ln
